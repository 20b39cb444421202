/- That these functions compute what their plain functions do. No condition. -/
import Derived.Test.YtijaigjfacfhnaaDoorM09
import Derived.Test.YtijaigjfacfhnaaDoorTy
import Derived.Test.YtijaigjfacfhnaaDoorM02
import Derived.Test.YtijaigjfacfhnaaDoorNa
import Derived.Test.YtijaigjfacfhnaaDoorOw
import Derived.Test.YtijaigjfacfhnaaDoorWe
namespace Go.Proofs
open Go.Ab
@[simp] def gControlHas.out (_x0 : Int) (r : ByteArray) : Out := { av := .lit (.string r), M := none }
def gControlHas.fin (x0 : Int) (r : ByteArray) (σ : St) : Prop := finK (gControlHas.out x0 r) [] σ.M (resA Tryd.ty σ.A σ.M Tryd.f22.results.toList)
set_option maxHeartbeats 4000000 in
set_option maxRecDepth 100000 in
theorem gControlHas.can (x0 : Int) (r : ByteArray) (hr : gControlHas x0 = some r) : CallOk Tryd.prog 22 [.lit (.int .i64 x0)] [] (gControlHas.out x0 r) := by
  unfold gControlHas at hr
  have hΓ := gamL_nil (P := Tryd.prog)
  refine call_of_awp Tryd.tyOk Tryd.func22 rfl (by kernel_rfl) rfl rfl (by simp) ?_
  intro _ _ _
  refine AWp.then ⟨[⟨0, none, .lit (.int .i64 x0)⟩], []⟩ (AWp.reg Tryd.tyOk hΓ (keep := []) (dead := []) (by kernel_rfl) rfl (by simp)) ?_
  refine AWp.seq ?_
  refine AWp.then ⟨[⟨3, none, .lit (.int .i64 x0)⟩], []⟩ (AWp.reg Tryd.tyOk hΓ (keep := [3]) (dead := [0]) (by kernel_rfl) rfl (by simp)) ?_
  refine AWp.block ?_
  refine AWp.then ⟨[⟨4, none, .lit (.bool (eqI x0 1))⟩, ⟨3, none, .lit (.int .i64 x0)⟩], []⟩ (AWp.reg Tryd.tyOk hΓ (keep := [4]) (dead := []) (by kernel_rfl) rfl (by simp)) ?_
  refine AWp.cond (b := (eqI x0 1)) (by simp) (fun h9 => ?_) (fun h9 => ?_)
  · have hr := cond_t h9 hr
    refine AWp.then ⟨[⟨2, none, .lit (.string ⟨#[114]⟩)⟩], []⟩ (AWp.reg Tryd.tyOk hΓ (keep := [2]) (dead := [4, 3]) (by kernel_rfl) rfl (by simp [h9])) ?_
    refine AWp.ret ?_
    obtain rfl := some_inj hr
    refine fin_ret ?_
    simp
  · have hr := cond_f h9 hr
    refine AWp.then ⟨[⟨6, none, .lit (.bool (eqI x0 2))⟩, ⟨3, none, .lit (.int .i64 x0)⟩], []⟩ (AWp.reg Tryd.tyOk hΓ (keep := [6]) (dead := [4]) (by kernel_rfl) rfl (by simp [h9])) ?_
    refine AWp.cond (b := (eqI x0 2)) (by simp) (fun h10 => ?_) (fun h10 => ?_)
    · have hr := cond_t h10 hr
      refine AWp.then ⟨[⟨2, none, .lit (.string ⟨#[112]⟩)⟩], []⟩ (AWp.reg Tryd.tyOk hΓ (keep := [2]) (dead := [6, 3]) (by kernel_rfl) rfl (by simp [h10])) ?_
      refine AWp.ret ?_
      obtain rfl := some_inj hr
      refine fin_ret ?_
      simp
    · have hr := cond_f h10 hr
      refine AWp.then ⟨[⟨8, none, .lit (.bool (eqI x0 3))⟩, ⟨3, none, .lit (.int .i64 x0)⟩], []⟩ (AWp.reg Tryd.tyOk hΓ (keep := [8]) (dead := [6]) (by kernel_rfl) rfl (by simp [h10])) ?_
      refine AWp.cond (b := (eqI x0 3)) (by simp) (fun h11 => ?_) (fun h11 => ?_)
      · have hr := cond_t h11 hr
        refine AWp.then ⟨[⟨2, none, .lit (.string ⟨#[112, 116, 115]⟩)⟩], []⟩ (AWp.reg Tryd.tyOk hΓ (keep := [2]) (dead := [8, 3]) (by kernel_rfl) rfl (by simp [h11])) ?_
        refine AWp.ret ?_
        obtain rfl := some_inj hr
        refine fin_ret ?_
        simp
      · have hr := cond_f h11 hr
        refine AWp.then ⟨[⟨10, none, .lit (.bool (eqI x0 4))⟩, ⟨3, none, .lit (.int .i64 x0)⟩], []⟩ (AWp.reg Tryd.tyOk hΓ (keep := [10]) (dead := [8]) (by kernel_rfl) rfl (by simp [h11])) ?_
        refine AWp.cond (b := (eqI x0 4)) (by simp) (fun h12 => ?_) (fun h12 => ?_)
        · have hr := cond_t h12 hr
          refine AWp.then ⟨[⟨2, none, .lit (.string ⟨#[112, 116]⟩)⟩], []⟩ (AWp.reg Tryd.tyOk hΓ (keep := [2]) (dead := [10, 3]) (by kernel_rfl) rfl (by simp [h12])) ?_
          refine AWp.ret ?_
          obtain rfl := some_inj hr
          refine fin_ret ?_
          simp
        · have hr := cond_f h12 hr
          refine AWp.then ⟨[⟨12, none, .lit (.bool (eqI x0 5))⟩, ⟨3, none, .lit (.int .i64 x0)⟩], []⟩ (AWp.reg Tryd.tyOk hΓ (keep := [12]) (dead := [10]) (by kernel_rfl) rfl (by simp [h12])) ?_
          refine AWp.cond (b := (eqI x0 5)) (by simp) (fun h13 => ?_) (fun h13 => ?_)
          · have hr := cond_t h13 hr
            refine AWp.then ⟨[⟨2, none, .lit (.string ⟨#[112, 111, 116, 108]⟩)⟩], []⟩ (AWp.reg Tryd.tyOk hΓ (keep := [2]) (dead := [12, 3]) (by kernel_rfl) rfl (by simp [h13])) ?_
            refine AWp.ret ?_
            obtain rfl := some_inj hr
            refine fin_ret ?_
            simp
          · have hr := cond_f h13 hr
            refine AWp.then ⟨[⟨14, none, .lit (.bool (eqI x0 6))⟩, ⟨3, none, .lit (.int .i64 x0)⟩], []⟩ (AWp.reg Tryd.tyOk hΓ (keep := [14]) (dead := [12]) (by kernel_rfl) rfl (by simp [h13])) ?_
            refine AWp.cond (b := (eqI x0 6)) (by simp) (fun h14 => ?_) (fun h14 => ?_)
            · have hr := cond_t h14 hr
              refine AWp.then ⟨[⟨2, none, .lit (.string ⟨#[112, 111, 116]⟩)⟩], []⟩ (AWp.reg Tryd.tyOk hΓ (keep := [2]) (dead := [14, 3]) (by kernel_rfl) rfl (by simp [h14])) ?_
              refine AWp.ret ?_
              obtain rfl := some_inj hr
              refine fin_ret ?_
              simp
            · have hr := cond_f h14 hr
              refine AWp.then ⟨[⟨16, none, .lit (.bool (eqI x0 7))⟩, ⟨3, none, .lit (.int .i64 x0)⟩], []⟩ (AWp.reg Tryd.tyOk hΓ (keep := [16]) (dead := [14]) (by kernel_rfl) rfl (by simp [h14])) ?_
              refine AWp.cond (b := (eqI x0 7)) (by simp) (fun h15 => ?_) (fun h15 => ?_)
              · have hr := cond_t h15 hr
                refine AWp.then ⟨[⟨2, none, .lit (.string ⟨#[112, 116, 98]⟩)⟩], []⟩ (AWp.reg Tryd.tyOk hΓ (keep := [2]) (dead := [16, 3]) (by kernel_rfl) rfl (by simp [h15])) ?_
                refine AWp.ret ?_
                obtain rfl := some_inj hr
                refine fin_ret ?_
                simp
              · have hr := cond_f h15 hr
                refine AWp.then ⟨[⟨18, none, .lit (.bool (eqI x0 8))⟩], []⟩ (AWp.reg Tryd.tyOk hΓ (keep := [18]) (dead := [16, 3]) (by kernel_rfl) rfl (by simp [h15])) ?_
                refine AWp.cond (b := (eqI x0 8)) (by simp) (fun h16 => ?_) (fun h16 => ?_)
                · have hr := cond_t h16 hr
                  refine AWp.then ⟨[⟨2, none, .lit (.string ⟨#[112, 111, 116, 98]⟩)⟩], []⟩ (AWp.reg Tryd.tyOk hΓ (keep := [2]) (dead := [18]) (by kernel_rfl) rfl (by simp [h16])) ?_
                  refine AWp.ret ?_
                  obtain rfl := some_inj hr
                  refine fin_ret ?_
                  simp
                · have hr := cond_f h16 hr
                  refine AWp.skip ?_
                  refine AWp.then ⟨[⟨2, none, .lit (.string ⟨#[]⟩)⟩], []⟩ (AWp.reg Tryd.tyOk hΓ (keep := [2]) (dead := [18]) (by kernel_rfl) rfl (by simp [h16])) ?_
                  refine AWp.ret ?_
                  obtain rfl := some_inj hr
                  refine fin_ret ?_
                  simp

@[simp] noncomputable def gControlHas.S : Sp
  | [.lit (.int .i64 x0)], _ => some { av := .lit (.string ((gControlHas x0).getD dflt)), M := none, obl := (gControlHas x0).isSome = true }
  | _, _ => none

set_option maxHeartbeats 1000000 in
theorem gControlHas.ok : SpecOk Tryd.prog 22 gControlHas.S := by
  intro l M out h
  unfold gControlHas.S at h
  split at h
  · rename_i x0
    cases h
    refine callOk_of fun ho => ?_
    have hs := ho
    obtain ⟨r, hr⟩ := Option.isSome_iff_exists.1 hs
    simp only [hr, Option.getD_some]
    have q := call_frame (M := M) [] (gControlHas.can x0 r hr) (by simp) rfl (by intro k i hk; simp at hk)
    exact callOk_conv q trivial (by simp) (by simp [frameOut, gControlHas.out]) (by simp [frameOut, gControlHas.out])
  · cases h

@[simp] def gControlPart.out (_x0 : Int) (_x1 : Int) (r : Bool) : Out := { av := .lit (.bool r), M := none }
def gControlPart.fin (x0 : Int) (x1 : Int) (r : Bool) (σ : St) : Prop := finK (gControlPart.out x0 x1 r) [] σ.M (resA Tryd.ty σ.A σ.M Tryd.f60.results.toList)
set_option maxHeartbeats 4000000 in
set_option maxRecDepth 100000 in
theorem gControlPart.can (x0 : Int) (x1 : Int) (r : Bool) (hr : gControlPart x0 x1 = some r) : CallOk Tryd.prog 60 [.lit (.int .i64 x0), .lit (.int .i32 x1)] [] (gControlPart.out x0 x1 r) := by
  unfold gControlPart at hr
  have hΓ := (gamL_cons gControlHas.ok (gamL_nil) : GamOk Tryd.prog _)
  refine call_of_awp Tryd.tyOk Tryd.func60 rfl (by kernel_rfl) rfl rfl (by simp) ?_
  intro _ _ _
  refine AWp.then ⟨[⟨0, none, .lit (.int .i64 x0)⟩, ⟨1, none, .lit (.int .i32 x1)⟩], []⟩ (AWp.reg Tryd.tyOk hΓ (keep := []) (dead := []) (by kernel_rfl) rfl (by simp)) ?_
  refine AWp.seq ?_
  obtain ⟨r1, h4, hr⟩ := bind_some' hr
  refine AWp.then ⟨[⟨9, none, .it 0⟩, ⟨1, none, .lit (.int .i32 x1)⟩], [.iter r1 0]⟩ (AWp.reg Tryd.tyOk hΓ (keep := [9]) (dead := [0]) (by kernel_rfl) rfl (by simp [h4])) ?_
  refine AWp.loopE (fun (s1 : Nat) (γ1 : Unit) => ⟨[⟨9, none, .it 0⟩, ⟨1, none, .lit (.int .i32 x1)⟩], [.iter r1 s1]⟩) (fun (v1 : Unit) (γ1a : Unit) => ⟨[], [.dead]⟩) (gControlPart.fin x0 x1) hr () 1 (by simp) (fun s1 f γ1 hr => ?_) (fun v1 γ1a σ1 m1 hr hc => ?_) (fun _ h => h)
  · unfold gControlPart.loop1 at hr
    cases h5 : (nextB r1 s1) with
    | true =>
      have hr := cond_t h5 hr
      refine AWp.then ⟨[⟨10, none, .tup [.lit (.bool true), .lit (.int .i64 (posI s1)), .lit (.int .i32 (runeS r1 s1))]⟩, ⟨11, none, .lit (.bool true)⟩, ⟨9, none, .it 0⟩, ⟨1, none, .lit (.int .i32 x1)⟩], [.iter r1 (stepS r1 s1)]⟩ (AWp.reg Tryd.tyOk hΓ (keep := [10, 11]) (dead := []) (by kernel_rfl) rfl (by simp [h5])) ?_
      refine AWp.seq ?_
      refine AWp.cond (b := true) (by simp) (fun hb => ?_) (fun hb => ?_)
      · refine AWp.skip ?_
        refine AWp.block ?_
        refine AWp.then ⟨[⟨6, none, .lit (.int .i32 (runeS r1 s1))⟩, ⟨9, none, .it 0⟩, ⟨1, none, .lit (.int .i32 x1)⟩], [.iter r1 (stepS r1 s1)]⟩ (AWp.reg Tryd.tyOk hΓ (keep := [6]) (dead := [10, 11]) (by kernel_rfl) rfl (by simp)) ?_
        refine AWp.then ⟨[⟨15, none, .lit (.bool (eqI (runeS r1 s1) x1))⟩, ⟨9, none, .it 0⟩, ⟨1, none, .lit (.int .i32 x1)⟩], [.iter r1 (stepS r1 s1)]⟩ (AWp.reg Tryd.tyOk hΓ (keep := [15]) (dead := [6]) (by kernel_rfl) rfl (by simp)) ?_
        refine AWp.cond (b := (eqI (runeS r1 s1) x1)) (by simp) (fun h6 => ?_) (fun h6 => ?_)
        · have hr := cond_t h6 hr
          refine AWp.then ⟨[⟨4, none, .lit (.bool true)⟩], [.iter r1 (stepS r1 s1)]⟩ (AWp.reg Tryd.tyOk hΓ (keep := [4]) (dead := [15, 9, 1]) (by kernel_rfl) rfl (by simp [h6])) ?_
          refine AWp.ret ?_
          obtain rfl := some_inj hr
          refine round_ret ?_
          refine fin_ret ?_
          simp
        · have hr := cond_f h6 hr
          refine AWp.skip ?_
          obtain rfl := some_inj hr
          exact round_go () 1 (by first | (simp; done) | simp [h4, h5, h6])
      · cases hb
    | false =>
      have hr := cond_f h5 hr
      refine AWp.then ⟨[⟨10, none, .tup [.lit (.bool false)]⟩, ⟨11, none, .lit (.bool false)⟩, ⟨9, none, .it 0⟩, ⟨1, none, .lit (.int .i32 x1)⟩], [.iter r1 s1]⟩ (AWp.reg Tryd.tyOk hΓ (keep := [10, 11]) (dead := []) (by kernel_rfl) rfl (by simp [h5])) ?_
      refine AWp.seq ?_
      refine AWp.cond (b := false) (by simp) (fun hb => ?_) (fun hb => ?_)
      · cases hb
      · refine AWp.exit ?_
        obtain rfl := some_inj hr
        exact round_out () 1 (by first | (simp; done) | simp [h4, h5])
  · refine AWp.conv hc ?_
    refine AWp.then ⟨[⟨4, none, .lit (.bool false)⟩], [.dead]⟩ (AWp.reg Tryd.tyOk hΓ (keep := [4]) (dead := []) (by kernel_rfl) rfl (by simp)) ?_
    refine AWp.ret ?_
    obtain rfl := some_inj hr
    refine fin_ret ?_
    simp

@[simp] noncomputable def gControlPart.S : Sp
  | [.lit (.int .i64 x0), .lit (.int .i32 x1)], _ => some { av := .lit (.bool ((gControlPart x0 x1).getD dflt)), M := none, obl := (gControlPart x0 x1).isSome = true }
  | _, _ => none

set_option maxHeartbeats 1000000 in
theorem gControlPart.ok : SpecOk Tryd.prog 60 gControlPart.S := by
  intro l M out h
  unfold gControlPart.S at h
  split at h
  · rename_i x0 x1
    cases h
    refine callOk_of fun ho => ?_
    have hs := ho
    obtain ⟨r, hr⟩ := Option.isSome_iff_exists.1 hs
    simp only [hr, Option.getD_some]
    have q := call_frame (M := M) [] (gControlPart.can x0 x1 r hr) (by simp) rfl (by intro k i hk; simp at hk)
    exact callOk_conv q trivial (by simp) (by simp [frameOut, gControlPart.out]) (by simp [frameOut, gControlPart.out])
  · cases h

@[simp] def gControlPeer.out (_x0 : Int) (r : Bool) : Out := { av := .lit (.bool r), M := none }
def gControlPeer.fin (x0 : Int) (r : Bool) (σ : St) : Prop := finK (gControlPeer.out x0 r) [] σ.M (resA Tryd.ty σ.A σ.M Tryd.f36.results.toList)
set_option maxHeartbeats 4000000 in
set_option maxRecDepth 100000 in
theorem gControlPeer.can (x0 : Int) (r : Bool) (hr : gControlPeer x0 = some r) : CallOk Tryd.prog 36 [.lit (.int .i64 x0)] [] (gControlPeer.out x0 r) := by
  unfold gControlPeer at hr
  have hΓ := gamL_nil (P := Tryd.prog)
  refine call_of_awp Tryd.tyOk Tryd.func36 rfl (by kernel_rfl) rfl rfl (by simp) ?_
  intro _ _ _
  refine AWp.then ⟨[⟨0, none, .lit (.int .i64 x0)⟩], []⟩ (AWp.reg Tryd.tyOk hΓ (keep := []) (dead := []) (by kernel_rfl) rfl (by simp)) ?_
  refine AWp.then ⟨[⟨2, none, .lit (.bool (pickB (leqI 0 x0) (leqI x0 65535) false))⟩], []⟩ (AWp.reg Tryd.tyOk hΓ (keep := [2]) (dead := [0]) (by kernel_rfl) rfl (by simp)) ?_
  refine AWp.ret ?_
  obtain rfl := some_inj hr
  refine fin_ret ?_
  simp

@[simp] noncomputable def gControlPeer.S : Sp
  | [.lit (.int .i64 x0)], _ => some { av := .lit (.bool ((gControlPeer x0).getD dflt)), M := none, obl := (gControlPeer x0).isSome = true }
  | _, _ => none

set_option maxHeartbeats 1000000 in
theorem gControlPeer.ok : SpecOk Tryd.prog 36 gControlPeer.S := by
  intro l M out h
  unfold gControlPeer.S at h
  split at h
  · rename_i x0
    cases h
    refine callOk_of fun ho => ?_
    have hs := ho
    obtain ⟨r, hr⟩ := Option.isSome_iff_exists.1 hs
    simp only [hr, Option.getD_some]
    have q := call_frame (M := M) [] (gControlPeer.can x0 r hr) (by simp) rfl (by intro k i hk; simp at hk)
    exact callOk_conv q trivial (by simp) (by simp [frameOut, gControlPeer.out]) (by simp [frameOut, gControlPeer.out])
  · cases h

@[simp] def gControlCommandEmpty.out (_x0 : Antiphonref07Command) (r : Bool) : Out := { av := .lit (.bool r), M := none }
def gControlCommandEmpty.fin (x0 : Antiphonref07Command) (r : Bool) (σ : St) : Prop := finK (gControlCommandEmpty.out x0 r) [] σ.M (resA Tryd.ty σ.A σ.M Tryd.f35.results.toList)
set_option maxHeartbeats 4000000 in
set_option maxRecDepth 100000 in
theorem gControlCommandEmpty.can (x0 : Antiphonref07Command) (r : Bool) (hr : gControlCommandEmpty x0 = some r) : CallOk Tryd.prog 35 [.agg [.lit (.int .i64 x0.fKind), .lit (.string x0.fRoom), .lit (.string x0.fName), .lit (.int .i64 x0.fPeer), .lit (.int .i64 x0.fOf), .lit (.int .i64 x0.fTrack), .lit (.int .i64 x0.fLayer), .lit (.bool x0.fOn), .lit (.bool x0.fVideo), .sl (x0.fSsrcs.map (eNum .u32)) .no]] [] (gControlCommandEmpty.out x0 r) := by
  unfold gControlCommandEmpty at hr
  have hΓ := (gamL_cons gControlPart.ok (gamL_nil) : GamOk Tryd.prog _)
  refine call_of_awp Tryd.tyOk Tryd.func35 rfl (by kernel_rfl) rfl rfl (by simp) ?_
  intro _ _ _
  refine AWp.then ⟨[⟨1, none, .ptr 0 0⟩], [.blk x0.enc]⟩ (AWp.reg Tryd.tyOk hΓ (keep := [1]) (dead := [0]) (by kernel_rfl) rfl (by simp)) ?_
  refine AWp.then ⟨[⟨3, none, .lit (.int .i64 x0.fKind)⟩, ⟨1, none, .ptr 0 0⟩], [.blk x0.enc]⟩ (AWp.reg Tryd.tyOk hΓ (keep := [3]) (dead := []) (by kernel_rfl) rfl (by simp)) ?_
  refine AWp.meetF (fun (v1 : Unit) (γ1 : Unit) => ⟨[], [.blk x0.enc]⟩) (gControlCommandEmpty.fin x0) hr (fun f hr => ?_) (fun v1 γ1 hr => ?_) (fun _ h => h)
  · refine AWp.block ?_
    refine AWp.meetF (fun (v2 : Bool) (γ2 : Unit) => ⟨[⟨3, none, .lit (.int .i64 x0.fKind)⟩, ⟨1, none, .ptr 0 0⟩, ⟨6, none, .lit (.bool v2)⟩], [.blk x0.enc]⟩) (QRm (gControlCommandEmpty.fin x0)) hr (fun f hr => ?_) (fun v2 γ2 hr => ?_) (fun _ h => QRm_ret h)
    · obtain ⟨r1, h16, hr⟩ := bind_some' hr
      obtain ⟨h17, hr⟩ := need_some hr
      refine AWp.then ⟨[⟨6, none, .lit (.bool (pickB (notB r1) (neS (catS x0.fRoom x0.fName) ⟨#[]⟩) false))⟩, ⟨3, none, .lit (.int .i64 x0.fKind)⟩, ⟨1, none, .ptr 0 0⟩], [.blk x0.enc]⟩ (AWp.reg Tryd.tyOk hΓ (keep := [6]) (dead := []) (by kernel_rfl) rfl (by simp [h16, h17])) ?_
      refine AWp.cond (b := (pickB (notB r1) (neS (catS x0.fRoom x0.fName) ⟨#[]⟩) false)) (by simp) (fun h18 => ?_) (fun h18 => ?_)
      · have hr := cond_t h18 hr
        refine AWp.skip ?_
        obtain rfl := some_inj hr
        exact meet_go () 1 (by first | (simp; done) | simp [h18])
      · have hr := cond_f h18 hr
        obtain ⟨r2, h19, hr⟩ := bind_some' hr
        refine AWp.then ⟨[⟨6, none, .lit (.bool (pickB (notB r2) (neI x0.fPeer 0) false))⟩, ⟨3, none, .lit (.int .i64 x0.fKind)⟩, ⟨1, none, .ptr 0 0⟩], [.blk x0.enc]⟩ (AWp.reg Tryd.tyOk hΓ (keep := [6]) (dead := []) (by kernel_rfl) rfl (by simp [h18, h19])) ?_
        refine AWp.cond (b := (pickB (notB r2) (neI x0.fPeer 0) false)) (by simp) (fun h20 => ?_) (fun h20 => ?_)
        · have hr := cond_t h20 hr
          refine AWp.skip ?_
          obtain rfl := some_inj hr
          exact meet_go () 1 (by first | (simp; done) | simp [h20])
        · have hr := cond_f h20 hr
          obtain ⟨r3, h21, hr⟩ := bind_some' hr
          refine AWp.then ⟨[⟨6, none, .lit (.bool (pickB (notB r3) (neI x0.fOf 0) false))⟩, ⟨3, none, .lit (.int .i64 x0.fKind)⟩, ⟨1, none, .ptr 0 0⟩], [.blk x0.enc]⟩ (AWp.reg Tryd.tyOk hΓ (keep := [6]) (dead := []) (by kernel_rfl) rfl (by simp [h20, h21])) ?_
          refine AWp.cond (b := (pickB (notB r3) (neI x0.fOf 0) false)) (by simp) (fun h22 => ?_) (fun h22 => ?_)
          · have hr := cond_t h22 hr
            refine AWp.skip ?_
            obtain rfl := some_inj hr
            exact meet_go () 1 (by first | (simp; done) | simp [h22])
          · have hr := cond_f h22 hr
            obtain ⟨r4, h23, hr⟩ := bind_some' hr
            refine AWp.last ⟨[⟨6, none, .lit (.bool (pickB (notB r4) (neI x0.fTrack 0) false))⟩, ⟨3, none, .lit (.int .i64 x0.fKind)⟩, ⟨1, none, .ptr 0 0⟩], [.blk x0.enc]⟩ (AWp.reg Tryd.tyOk hΓ (keep := [6]) (dead := []) (by kernel_rfl) rfl (by simp [h22, h23])) ?_
            obtain rfl := some_inj hr
            exact meet_go () 1 (by first | (simp; done) | simp [h16, h17, h18, h19, h20, h21, h22, h23])
    · refine AWp.cond (b := v2) (by simp) (fun h24 => ?_) (fun h24 => ?_)
      · have hr := cond_t h24 hr
        refine AWp.then ⟨[⟨2, none, .lit (.bool false)⟩], [.blk x0.enc]⟩ (AWp.reg Tryd.tyOk hΓ (keep := [2]) (dead := [3, 1, 6]) (by kernel_rfl) rfl (by simp [h24])) ?_
        refine AWp.ret ?_
        obtain rfl := some_inj hr
        refine meet_ret ?_
        refine fin_ret ?_
        simp
      · have hr := cond_f h24 hr
        refine AWp.meetF (fun (v3 : Bool) (γ3 : Unit) => ⟨[⟨42, none, .lit (.bool v3)⟩], [.blk x0.enc]⟩) (QRm (gControlCommandEmpty.fin x0)) hr (fun f hr => ?_) (fun v3 γ3 hr => ?_) (fun _ h => QRm_ret h)
        · obtain ⟨r5, h25, hr⟩ := bind_some' hr
          refine AWp.then ⟨[⟨42, none, .lit (.bool (pickB (notB r5) (neI x0.fLayer 0) false))⟩, ⟨3, none, .lit (.int .i64 x0.fKind)⟩, ⟨1, none, .ptr 0 0⟩], [.blk x0.enc]⟩ (AWp.reg Tryd.tyOk hΓ (keep := [42]) (dead := [6]) (by kernel_rfl) rfl (by simp [h24, h25])) ?_
          refine AWp.cond (b := (pickB (notB r5) (neI x0.fLayer 0) false)) (by simp) (fun h26 => ?_) (fun h26 => ?_)
          · have hr := cond_t h26 hr
            refine AWp.skip ?_
            obtain rfl := some_inj hr
            exact meet_go () 1 (by first | (simp; done) | simp [h26])
          · have hr := cond_f h26 hr
            obtain ⟨r6, h27, hr⟩ := bind_some' hr
            refine AWp.then ⟨[⟨42, none, .lit (.bool (pickB (notB r6) x0.fOn false))⟩, ⟨3, none, .lit (.int .i64 x0.fKind)⟩, ⟨1, none, .ptr 0 0⟩], [.blk x0.enc]⟩ (AWp.reg Tryd.tyOk hΓ (keep := [42]) (dead := []) (by kernel_rfl) rfl (by simp [h26, h27])) ?_
            refine AWp.cond (b := (pickB (notB r6) x0.fOn false)) (by simp) (fun h28 => ?_) (fun h28 => ?_)
            · have hr := cond_t h28 hr
              refine AWp.skip ?_
              obtain rfl := some_inj hr
              exact meet_go () 1 (by first | (simp; done) | simp [h28])
            · have hr := cond_f h28 hr
              obtain ⟨r7, h29, hr⟩ := bind_some' hr
              refine AWp.last ⟨[⟨42, none, .lit (.bool (pickB (notB r7) (pickB x0.fVideo true (ltI 0 (lenL x0.fSsrcs))) false))⟩], [.blk x0.enc]⟩ (AWp.reg Tryd.tyOk hΓ (keep := [42]) (dead := [3, 1]) (by kernel_rfl) rfl (by simp [h28, h29])) ?_
              obtain rfl := some_inj hr
              exact meet_go () 1 (by first | (simp; done) | simp [h24, h25, h26, h27, h28, h29])
        · refine AWp.cond (b := v3) (by simp) (fun h30 => ?_) (fun h30 => ?_)
          · have hr := cond_t h30 hr
            refine AWp.then ⟨[⟨2, none, .lit (.bool false)⟩], [.blk x0.enc]⟩ (AWp.reg Tryd.tyOk hΓ (keep := [2]) (dead := [42]) (by kernel_rfl) rfl (by simp [h30])) ?_
            refine AWp.ret ?_
            obtain rfl := some_inj hr
            refine meet_ret ?_
            refine fin_ret ?_
            simp
          · have hr := cond_f h30 hr
            refine AWp.skip ?_
            obtain rfl := some_inj hr
            exact meet_go () 1 (by first | (simp; done) | simp [h24, h30])
  · refine AWp.then ⟨[⟨2, none, .lit (.bool true)⟩], [.blk x0.enc]⟩ (AWp.reg Tryd.tyOk hΓ (keep := [2]) (dead := []) (by kernel_rfl) rfl (by simp)) ?_
    refine AWp.ret ?_
    obtain rfl := some_inj hr
    refine fin_ret ?_
    simp

@[simp] noncomputable def gControlCommandEmpty.S : Sp
  | [.agg e0], _ => some { av := .lit (.bool ((gControlCommandEmpty (Antiphonref07Command.dec e0)).getD dflt)), M := none, obl := WeakL e0 (Antiphonref07Command.enc (Antiphonref07Command.dec e0)) ∧ (gControlCommandEmpty (Antiphonref07Command.dec e0)).isSome = true }
  | _, _ => none

set_option maxHeartbeats 1000000 in
theorem gControlCommandEmpty.ok : SpecOk Tryd.prog 35 gControlCommandEmpty.S := by
  intro l M out h
  unfold gControlCommandEmpty.S at h
  split at h
  · rename_i e0
    cases h
    refine callOk_of fun ho => ?_
    obtain ⟨ox0, hs⟩ := ho
    generalize (Antiphonref07Command.dec e0) = x0 at *
    obtain ⟨r, hr⟩ := Option.isSome_iff_exists.1 hs
    simp only [hr, Option.getD_some]
    have q := call_frame (M := M) [] (gControlCommandEmpty.can x0 r hr) (by simp) rfl (by intro k i hk; simp at hk)
    exact callOk_conv q trivial (by simp; exact ox0) (by simp [frameOut, gControlCommandEmpty.out]) (by simp [frameOut, gControlCommandEmpty.out])
  · cases h

@[simp] def gControlCommandSources.out (_x0 : Antiphonref07Command) (r : Int) : Out := { av := .lit (.int .i64 r), M := none }
def gControlCommandSources.fin (x0 : Antiphonref07Command) (r : Int) (σ : St) : Prop := finK (gControlCommandSources.out x0 r) [] σ.M (resA Tryd.ty σ.A σ.M Tryd.f38.results.toList)
set_option maxHeartbeats 4000000 in
set_option maxRecDepth 100000 in
theorem gControlCommandSources.can (x0 : Antiphonref07Command) (r : Int) (hr : gControlCommandSources x0 = some r) : CallOk Tryd.prog 38 [.agg [.lit (.int .i64 x0.fKind), .lit (.string x0.fRoom), .lit (.string x0.fName), .lit (.int .i64 x0.fPeer), .lit (.int .i64 x0.fOf), .lit (.int .i64 x0.fTrack), .lit (.int .i64 x0.fLayer), .lit (.bool x0.fOn), .lit (.bool x0.fVideo), .sl (x0.fSsrcs.map (eNum .u32)) .no]] [] (gControlCommandSources.out x0 r) := by
  unfold gControlCommandSources at hr
  have hΓ := gamL_nil (P := Tryd.prog)
  refine call_of_awp Tryd.tyOk Tryd.func38 rfl (by kernel_rfl) rfl rfl (by simp) ?_
  intro _ _ _
  refine AWp.then ⟨[⟨1, none, .ptr 0 0⟩], [.blk x0.enc]⟩ (AWp.reg Tryd.tyOk hΓ (keep := [1]) (dead := [0]) (by kernel_rfl) rfl (by simp)) ?_
  refine AWp.then ⟨[⟨3, none, .lit (.int .i64 (lenL x0.fSsrcs))⟩, ⟨1, none, .ptr 0 0⟩], [.blk x0.enc]⟩ (AWp.reg Tryd.tyOk hΓ (keep := [3]) (dead := []) (by kernel_rfl) rfl (by simp)) ?_
  refine AWp.seq ?_
  refine AWp.block ?_
  refine AWp.then ⟨[⟨11, none, .lit (.bool (pickB (pickB (ltI (lenL x0.fSsrcs) 1) true (ltI 3 (lenL x0.fSsrcs))) true (pickB (ltI 1 (lenL x0.fSsrcs)) (notB x0.fVideo) false)))⟩, ⟨1, none, .ptr 0 0⟩], [.blk x0.enc]⟩ (AWp.reg Tryd.tyOk hΓ (keep := [11]) (dead := [3]) (by kernel_rfl) rfl (by simp)) ?_
  refine AWp.cond (b := (pickB (pickB (ltI (lenL x0.fSsrcs) 1) true (ltI 3 (lenL x0.fSsrcs))) true (pickB (ltI 1 (lenL x0.fSsrcs)) (notB x0.fVideo) false))) (by simp) (fun h8 => ?_) (fun h8 => ?_)
  · have hr := cond_t h8 hr
    refine AWp.then ⟨[⟨2, none, .lit (.int .i64 5)⟩], [.blk x0.enc]⟩ (AWp.reg Tryd.tyOk hΓ (keep := [2]) (dead := [11, 1]) (by kernel_rfl) rfl (by simp [h8])) ?_
    refine AWp.ret ?_
    obtain rfl := some_inj hr
    refine fin_ret ?_
    simp
  · have hr := cond_f h8 hr
    refine AWp.skip ?_
    refine AWp.seq ?_
    refine AWp.then ⟨[⟨28, none, .sl (x0.fSsrcs.map (eNum .u32)) .no⟩, ⟨29, none, .lit (.int .i64 (lenL x0.fSsrcs))⟩, ⟨30, none, .lit (.int .i64 0)⟩, ⟨1, none, .ptr 0 0⟩], [.blk x0.enc]⟩ (AWp.reg Tryd.tyOk hΓ (keep := [28, 29, 30]) (dead := [11]) (by kernel_rfl) rfl (by simp [h8])) ?_
    refine AWp.loopE (fun (s1 : Int) (γ1 : Unit) => ⟨[⟨28, none, .sl (x0.fSsrcs.map (eNum .u32)) .no⟩, ⟨29, none, .lit (.int .i64 (lenL x0.fSsrcs))⟩, ⟨30, none, .lit (.int .i64 s1)⟩, ⟨1, none, .ptr 0 0⟩], [.blk x0.enc]⟩) (fun (v1 : Unit) (γ1a : Unit) => ⟨[], [.blk x0.enc]⟩) (gControlCommandSources.fin x0) hr () 1 (by simp) (fun s1 f γ1 hr => ?_) (fun v1 γ1a σ1 m1 hr hc => ?_) (fun _ h => h)
    · unfold gControlCommandSources.loop1 at hr
      refine AWp.then ⟨[⟨31, none, .lit (.bool (ltI s1 (lenL x0.fSsrcs)))⟩, ⟨28, none, .sl (x0.fSsrcs.map (eNum .u32)) .no⟩, ⟨29, none, .lit (.int .i64 (lenL x0.fSsrcs))⟩, ⟨30, none, .lit (.int .i64 s1)⟩, ⟨1, none, .ptr 0 0⟩], [.blk x0.enc]⟩ (AWp.reg Tryd.tyOk hΓ (keep := [31]) (dead := []) (by kernel_rfl) rfl (by simp)) ?_
      refine AWp.seq ?_
      refine AWp.cond (b := (ltI s1 (lenL x0.fSsrcs))) (by simp) (fun h9 => ?_) (fun h9 => ?_)
      · have hr := cond_t h9 hr
        refine AWp.skip ?_
        refine AWp.seq ?_
        refine AWp.block ?_
        obtain ⟨h10, hr⟩ := need_some hr
        refine AWp.then ⟨[⟨4, none, .lit (.int .i64 s1)⟩, ⟨5, none, .lit (.int .u32 (nthI x0.fSsrcs s1))⟩, ⟨28, none, .sl (x0.fSsrcs.map (eNum .u32)) .no⟩, ⟨29, none, .lit (.int .i64 (lenL x0.fSsrcs))⟩, ⟨30, none, .lit (.int .i64 s1)⟩, ⟨1, none, .ptr 0 0⟩], [.blk x0.enc]⟩ (AWp.reg Tryd.tyOk hΓ (keep := [4, 5]) (dead := [31]) (by kernel_rfl) rfl (by simp [h9, h10])) ?_
        obtain ⟨h11, hr⟩ := need_some hr
        refine AWp.then ⟨[⟨38, none, .sl ((cutL x0.fSsrcs 0 s1).map (eNum .u32)) .no⟩, ⟨39, none, .lit (.int .i64 (lenL (cutL x0.fSsrcs 0 s1)))⟩, ⟨40, none, .lit (.int .i64 0)⟩, ⟨5, none, .lit (.int .u32 (nthI x0.fSsrcs s1))⟩, ⟨28, none, .sl (x0.fSsrcs.map (eNum .u32)) .no⟩, ⟨29, none, .lit (.int .i64 (lenL x0.fSsrcs))⟩, ⟨30, none, .lit (.int .i64 s1)⟩, ⟨1, none, .ptr 0 0⟩], [.blk x0.enc]⟩ (AWp.reg Tryd.tyOk hΓ (keep := [38, 39, 40]) (dead := [4]) (by kernel_rfl) rfl (by simp [h11])) ?_
        refine AWp.loopE (fun (s2 : Int) (γ2 : Unit) => ⟨[⟨38, none, .sl ((cutL x0.fSsrcs 0 s1).map (eNum .u32)) .no⟩, ⟨39, none, .lit (.int .i64 (lenL (cutL x0.fSsrcs 0 s1)))⟩, ⟨40, none, .lit (.int .i64 s2)⟩, ⟨5, none, .lit (.int .u32 (nthI x0.fSsrcs s1))⟩, ⟨28, none, .sl (x0.fSsrcs.map (eNum .u32)) .no⟩, ⟨29, none, .lit (.int .i64 (lenL x0.fSsrcs))⟩, ⟨30, none, .lit (.int .i64 s1)⟩, ⟨1, none, .ptr 0 0⟩], [.blk x0.enc]⟩) (fun (v2 : Unit) (γ2a : Unit) => ⟨[⟨28, none, .sl (x0.fSsrcs.map (eNum .u32)) .no⟩, ⟨29, none, .lit (.int .i64 (lenL x0.fSsrcs))⟩, ⟨30, none, .lit (.int .i64 s1)⟩, ⟨1, none, .ptr 0 0⟩], [.blk x0.enc]⟩) (QRr (gControlCommandSources.fin x0)) hr () 1 (by simp) (fun s2 f γ2 hr => ?_) (fun v2 γ2a σ1 m1 hr hc => ?_) (fun _ h => QRr_ret h)
        · unfold gControlCommandSources.loop2 at hr
          refine AWp.then ⟨[⟨41, none, .lit (.bool (ltI s2 (lenL (cutL x0.fSsrcs 0 s1))))⟩, ⟨38, none, .sl ((cutL x0.fSsrcs 0 s1).map (eNum .u32)) .no⟩, ⟨39, none, .lit (.int .i64 (lenL (cutL x0.fSsrcs 0 s1)))⟩, ⟨40, none, .lit (.int .i64 s2)⟩, ⟨5, none, .lit (.int .u32 (nthI x0.fSsrcs s1))⟩, ⟨28, none, .sl (x0.fSsrcs.map (eNum .u32)) .no⟩, ⟨29, none, .lit (.int .i64 (lenL x0.fSsrcs))⟩, ⟨30, none, .lit (.int .i64 s1)⟩, ⟨1, none, .ptr 0 0⟩], [.blk x0.enc]⟩ (AWp.reg Tryd.tyOk hΓ (keep := [41]) (dead := []) (by kernel_rfl) rfl (by simp)) ?_
          refine AWp.seq ?_
          refine AWp.cond (b := (ltI s2 (lenL (cutL x0.fSsrcs 0 s1)))) (by simp) (fun h12 => ?_) (fun h12 => ?_)
          · have hr := cond_t h12 hr
            refine AWp.skip ?_
            refine AWp.seq ?_
            refine AWp.block ?_
            obtain ⟨h13, hr⟩ := need_some hr
            refine AWp.then ⟨[⟨7, none, .lit (.int .u32 (nthI (cutL x0.fSsrcs 0 s1) s2))⟩, ⟨38, none, .sl ((cutL x0.fSsrcs 0 s1).map (eNum .u32)) .no⟩, ⟨39, none, .lit (.int .i64 (lenL (cutL x0.fSsrcs 0 s1)))⟩, ⟨40, none, .lit (.int .i64 s2)⟩, ⟨5, none, .lit (.int .u32 (nthI x0.fSsrcs s1))⟩, ⟨28, none, .sl (x0.fSsrcs.map (eNum .u32)) .no⟩, ⟨29, none, .lit (.int .i64 (lenL x0.fSsrcs))⟩, ⟨30, none, .lit (.int .i64 s1)⟩, ⟨1, none, .ptr 0 0⟩], [.blk x0.enc]⟩ (AWp.reg Tryd.tyOk hΓ (keep := [7]) (dead := [41]) (by kernel_rfl) rfl (by simp [h12, h13])) ?_
            refine AWp.then ⟨[⟨46, none, .lit (.bool (eqI (nthI x0.fSsrcs s1) (nthI (cutL x0.fSsrcs 0 s1) s2)))⟩, ⟨38, none, .sl ((cutL x0.fSsrcs 0 s1).map (eNum .u32)) .no⟩, ⟨39, none, .lit (.int .i64 (lenL (cutL x0.fSsrcs 0 s1)))⟩, ⟨40, none, .lit (.int .i64 s2)⟩, ⟨5, none, .lit (.int .u32 (nthI x0.fSsrcs s1))⟩, ⟨28, none, .sl (x0.fSsrcs.map (eNum .u32)) .no⟩, ⟨29, none, .lit (.int .i64 (lenL x0.fSsrcs))⟩, ⟨30, none, .lit (.int .i64 s1)⟩, ⟨1, none, .ptr 0 0⟩], [.blk x0.enc]⟩ (AWp.reg Tryd.tyOk hΓ (keep := [46]) (dead := [7]) (by kernel_rfl) rfl (by simp)) ?_
            refine AWp.cond (b := (eqI (nthI x0.fSsrcs s1) (nthI (cutL x0.fSsrcs 0 s1) s2))) (by simp) (fun h14 => ?_) (fun h14 => ?_)
            · have hr := cond_t h14 hr
              refine AWp.then ⟨[⟨2, none, .lit (.int .i64 10)⟩], [.blk x0.enc]⟩ (AWp.reg Tryd.tyOk hΓ (keep := [2]) (dead := [46, 38, 39, 40, 5, 28, 29, 30, 1]) (by kernel_rfl) rfl (by simp [h14])) ?_
              refine AWp.ret ?_
              obtain rfl := some_inj hr
              refine round_ret ?_
              refine ⟨_, rfl, ?_⟩
              refine fin_ret ?_
              simp
            · have hr := cond_f h14 hr
              refine AWp.skip ?_
              refine AWp.last ⟨[⟨40, none, .lit (.int .i64 (addI .i64 s2 1))⟩, ⟨38, none, .sl ((cutL x0.fSsrcs 0 s1).map (eNum .u32)) .no⟩, ⟨39, none, .lit (.int .i64 (lenL (cutL x0.fSsrcs 0 s1)))⟩, ⟨5, none, .lit (.int .u32 (nthI x0.fSsrcs s1))⟩, ⟨28, none, .sl (x0.fSsrcs.map (eNum .u32)) .no⟩, ⟨29, none, .lit (.int .i64 (lenL x0.fSsrcs))⟩, ⟨30, none, .lit (.int .i64 s1)⟩, ⟨1, none, .ptr 0 0⟩], [.blk x0.enc]⟩ (AWp.reg Tryd.tyOk hΓ (keep := [40]) (dead := [46]) (by kernel_rfl) rfl (by simp [h14])) ?_
              obtain rfl := some_inj hr
              exact round_go () 1 (by first | (simp; done) | simp [h8, h9, h10, h11, h12, h13, h14])
          · have hr := cond_f h12 hr
            refine AWp.exit ?_
            obtain rfl := some_inj hr
            exact round_out () 1 (by first | (simp; done) | simp [h8, h9, h10, h11, h12])
        · refine AWp.conv hc ?_
          refine AWp.last ⟨[⟨30, none, .lit (.int .i64 (addI .i64 s1 1))⟩, ⟨28, none, .sl (x0.fSsrcs.map (eNum .u32)) .no⟩, ⟨29, none, .lit (.int .i64 (lenL x0.fSsrcs))⟩, ⟨1, none, .ptr 0 0⟩], [.blk x0.enc]⟩ (AWp.reg Tryd.tyOk hΓ (keep := [30]) (dead := []) (by kernel_rfl) rfl (by simp)) ?_
          obtain rfl := some_inj hr
          exact round_go () 1 (by first | (simp; done) | simp [h8, h9, h10, h11])
      · have hr := cond_f h9 hr
        refine AWp.exit ?_
        obtain rfl := some_inj hr
        exact round_out () 1 (by first | (simp; done) | simp [h8, h9])
    · refine AWp.conv hc ?_
      refine AWp.then ⟨[⟨2, none, .lit (.int .i64 0)⟩], [.blk x0.enc]⟩ (AWp.reg Tryd.tyOk hΓ (keep := [2]) (dead := []) (by kernel_rfl) rfl (by simp)) ?_
      refine AWp.ret ?_
      obtain rfl := some_inj hr
      refine fin_ret ?_
      simp

@[simp] noncomputable def gControlCommandSources.S : Sp
  | [.agg e0], _ => some { av := .lit (.int .i64 ((gControlCommandSources (Antiphonref07Command.dec e0)).getD dflt)), M := none, obl := WeakL e0 (Antiphonref07Command.enc (Antiphonref07Command.dec e0)) ∧ (gControlCommandSources (Antiphonref07Command.dec e0)).isSome = true }
  | _, _ => none

set_option maxHeartbeats 1000000 in
theorem gControlCommandSources.ok : SpecOk Tryd.prog 38 gControlCommandSources.S := by
  intro l M out h
  unfold gControlCommandSources.S at h
  split at h
  · rename_i e0
    cases h
    refine callOk_of fun ho => ?_
    obtain ⟨ox0, hs⟩ := ho
    generalize (Antiphonref07Command.dec e0) = x0 at *
    obtain ⟨r, hr⟩ := Option.isSome_iff_exists.1 hs
    simp only [hr, Option.getD_some]
    have q := call_frame (M := M) [] (gControlCommandSources.can x0 r hr) (by simp) rfl (by intro k i hk; simp at hk)
    exact callOk_conv q trivial (by simp; exact ox0) (by simp [frameOut, gControlCommandSources.out]) (by simp [frameOut, gControlCommandSources.out])
  · cases h

@[simp] def gControlCommandCheck.out (_x0 : Antiphonref07Command) (r : Int) : Out := { av := .lit (.int .i64 r), M := none }
def gControlCommandCheck.fin (x0 : Antiphonref07Command) (r : Int) (σ : St) : Prop := finK (gControlCommandCheck.out x0 r) [] σ.M (resA Tryd.ty σ.A σ.M Tryd.f14.results.toList)
set_option maxHeartbeats 4000000 in
set_option maxRecDepth 100000 in
theorem gControlCommandCheck.can (x0 : Antiphonref07Command) (r : Int) (hr : gControlCommandCheck x0 = some r) : CallOk Tryd.prog 14 [.agg [.lit (.int .i64 x0.fKind), .lit (.string x0.fRoom), .lit (.string x0.fName), .lit (.int .i64 x0.fPeer), .lit (.int .i64 x0.fOf), .lit (.int .i64 x0.fTrack), .lit (.int .i64 x0.fLayer), .lit (.bool x0.fOn), .lit (.bool x0.fVideo), .sl (x0.fSsrcs.map (eNum .u32)) .no]] [] (gControlCommandCheck.out x0 r) := by
  unfold gControlCommandCheck at hr
  have hΓ := (gamL_cons gControlCommandEmpty.ok (gamL_cons gControlCommandSources.ok (gamL_cons gControlHas.ok (gamL_cons gControlPeer.ok (gamL_cons gLabelCheck.ok (gamL_nil))))) : GamOk Tryd.prog _)
  refine call_of_awp Tryd.tyOk Tryd.func14 rfl (by kernel_rfl) rfl rfl (by simp) ?_
  intro _ _ _
  refine AWp.then ⟨[⟨1, none, .ptr 0 0⟩], [.blk x0.enc]⟩ (AWp.reg Tryd.tyOk hΓ (keep := [1]) (dead := [0]) (by kernel_rfl) rfl (by simp)) ?_
  refine AWp.seq ?_
  refine AWp.block ?_
  obtain ⟨r1, h13, hr⟩ := bind_some' hr
  refine AWp.then ⟨[⟨3, none, .lit (.bool (eqS r1 ⟨#[]⟩))⟩, ⟨1, none, .ptr 0 0⟩], [.blk x0.enc]⟩ (AWp.reg Tryd.tyOk hΓ (keep := [3]) (dead := []) (by kernel_rfl) rfl (by simp [h13])) ?_
  refine AWp.cond (b := (eqS r1 ⟨#[]⟩)) (by simp) (fun h14 => ?_) (fun h14 => ?_)
  · have hr := cond_t h14 hr
    refine AWp.then ⟨[⟨2, none, .lit (.int .i64 3)⟩], [.blk x0.enc]⟩ (AWp.reg Tryd.tyOk hΓ (keep := [2]) (dead := [3, 1]) (by kernel_rfl) rfl (by simp [h14])) ?_
    refine AWp.ret ?_
    obtain rfl := some_inj hr
    refine fin_ret ?_
    simp
  · have hr := cond_f h14 hr
    obtain ⟨r2, h15, hr⟩ := bind_some' hr
    refine AWp.then ⟨[⟨8, none, .lit (.bool (notB r2))⟩, ⟨1, none, .ptr 0 0⟩], [.blk x0.enc]⟩ (AWp.reg Tryd.tyOk hΓ (keep := [8]) (dead := [3]) (by kernel_rfl) rfl (by simp [h14, h15])) ?_
    refine AWp.cond (b := (notB r2)) (by simp) (fun h16 => ?_) (fun h16 => ?_)
    · have hr := cond_t h16 hr
      refine AWp.then ⟨[⟨2, none, .lit (.int .i64 2)⟩], [.blk x0.enc]⟩ (AWp.reg Tryd.tyOk hΓ (keep := [2]) (dead := [8, 1]) (by kernel_rfl) rfl (by simp [h16])) ?_
      refine AWp.ret ?_
      obtain rfl := some_inj hr
      refine fin_ret ?_
      simp
    · have hr := cond_f h16 hr
      obtain ⟨r3, h17, hr⟩ := bind_some' hr
      obtain ⟨h18, hr⟩ := need_some hr
      refine AWp.then ⟨[⟨12, none, .lit (.bool (pickB (pickB (pickB (pickB (pickB (notB r3) true (notB ((gControlPeer x0.fOf).getD dflt))) true (ltI x0.fTrack 0)) true (leqI 4 x0.fTrack)) true (ltI x0.fLayer 0)) true (leqI 3 x0.fLayer)))⟩, ⟨1, none, .ptr 0 0⟩], [.blk x0.enc]⟩ (AWp.reg Tryd.tyOk hΓ (keep := [12]) (dead := [8]) (by kernel_rfl) rfl (by simp [h16, h17, h18])) ?_
      refine AWp.cond (b := (pickB (pickB (pickB (pickB (pickB (notB r3) true (notB ((gControlPeer x0.fOf).getD dflt))) true (ltI x0.fTrack 0)) true (leqI 4 x0.fTrack)) true (ltI x0.fLayer 0)) true (leqI 3 x0.fLayer))) (by simp) (fun h19 => ?_) (fun h19 => ?_)
      · have hr := cond_t h19 hr
        refine AWp.then ⟨[⟨2, none, .lit (.int .i64 5)⟩], [.blk x0.enc]⟩ (AWp.reg Tryd.tyOk hΓ (keep := [2]) (dead := [12, 1]) (by kernel_rfl) rfl (by simp [h19])) ?_
        refine AWp.ret ?_
        obtain rfl := some_inj hr
        refine fin_ret ?_
        simp
      · have hr := cond_f h19 hr
        obtain ⟨h20, hr⟩ := need_some hr
        obtain ⟨h21, hr⟩ := need_some hr
        refine AWp.then ⟨[⟨43, none, .lit (.bool (pickB (eqI x0.fKind 1) (pickB (neI ((gLabelCheck x0.fRoom).getD dflt) 0) true (neI ((gLabelCheck x0.fName).getD dflt) 0)) false))⟩, ⟨1, none, .ptr 0 0⟩], [.blk x0.enc]⟩ (AWp.reg Tryd.tyOk hΓ (keep := [43]) (dead := [12]) (by kernel_rfl) rfl (by simp [h19, h20, h21])) ?_
        refine AWp.cond (b := (pickB (eqI x0.fKind 1) (pickB (neI ((gLabelCheck x0.fRoom).getD dflt) 0) true (neI ((gLabelCheck x0.fName).getD dflt) 0)) false)) (by simp) (fun h22 => ?_) (fun h22 => ?_)
        · have hr := cond_t h22 hr
          refine AWp.then ⟨[⟨2, none, .lit (.int .i64 6)⟩], [.blk x0.enc]⟩ (AWp.reg Tryd.tyOk hΓ (keep := [2]) (dead := [43, 1]) (by kernel_rfl) rfl (by simp [h22])) ?_
          refine AWp.ret ?_
          obtain rfl := some_inj hr
          refine fin_ret ?_
          simp
        · have hr := cond_f h22 hr
          refine AWp.then ⟨[⟨59, none, .lit (.bool (eqI x0.fKind 3))⟩, ⟨1, none, .ptr 0 0⟩], [.blk x0.enc]⟩ (AWp.reg Tryd.tyOk hΓ (keep := [59]) (dead := [43]) (by kernel_rfl) rfl (by simp [h22])) ?_
          refine AWp.cond (b := (eqI x0.fKind 3)) (by simp) (fun h23 => ?_) (fun h23 => ?_)
          · have hr := cond_t h23 hr
            obtain ⟨r4, h24, hr⟩ := bind_some' hr
            refine AWp.then ⟨[⟨2, none, .lit (.int .i64 r4)⟩], [.blk x0.enc]⟩ (AWp.reg Tryd.tyOk hΓ (keep := [2]) (dead := [59, 1]) (by kernel_rfl) rfl (by simp [h23, h24])) ?_
            refine AWp.ret ?_
            obtain rfl := some_inj hr
            refine fin_ret ?_
            simp
          · have hr := cond_f h23 hr
            refine AWp.skip ?_
            refine AWp.then ⟨[⟨2, none, .lit (.int .i64 0)⟩], [.blk x0.enc]⟩ (AWp.reg Tryd.tyOk hΓ (keep := [2]) (dead := [59, 1]) (by kernel_rfl) rfl (by simp [h23])) ?_
            refine AWp.ret ?_
            obtain rfl := some_inj hr
            refine fin_ret ?_
            simp

@[simp] noncomputable def gControlCommandCheck.S : Sp
  | [.agg e0], _ => some { av := .lit (.int .i64 ((gControlCommandCheck (Antiphonref07Command.dec e0)).getD dflt)), M := none, obl := WeakL e0 (Antiphonref07Command.enc (Antiphonref07Command.dec e0)) ∧ (gControlCommandCheck (Antiphonref07Command.dec e0)).isSome = true }
  | _, _ => none

set_option maxHeartbeats 1000000 in
theorem gControlCommandCheck.ok : SpecOk Tryd.prog 14 gControlCommandCheck.S := by
  intro l M out h
  unfold gControlCommandCheck.S at h
  split at h
  · rename_i e0
    cases h
    refine callOk_of fun ho => ?_
    obtain ⟨ox0, hs⟩ := ho
    generalize (Antiphonref07Command.dec e0) = x0 at *
    obtain ⟨r, hr⟩ := Option.isSome_iff_exists.1 hs
    simp only [hr, Option.getD_some]
    have q := call_frame (M := M) [] (gControlCommandCheck.can x0 r hr) (by simp) rfl (by intro k i hk; simp at hk)
    exact callOk_conv q trivial (by simp; exact ox0) (by simp [frameOut, gControlCommandCheck.out]) (by simp [frameOut, gControlCommandCheck.out])
  · cases h

@[simp] def gControlBit.out (_x0 : Bool) (r : Int) : Out := { av := .lit (.int .u8 r), M := none }
def gControlBit.fin (x0 : Bool) (r : Int) (σ : St) : Prop := finK (gControlBit.out x0 r) [] σ.M (resA Tryd.ty σ.A σ.M Tryd.f32.results.toList)
set_option maxHeartbeats 4000000 in
set_option maxRecDepth 100000 in
theorem gControlBit.can (x0 : Bool) (r : Int) (hr : gControlBit x0 = some r) : CallOk Tryd.prog 32 [.lit (.bool x0)] [] (gControlBit.out x0 r) := by
  unfold gControlBit at hr
  have hΓ := gamL_nil (P := Tryd.prog)
  refine call_of_awp Tryd.tyOk Tryd.func32 rfl (by kernel_rfl) rfl rfl (by simp) ?_
  intro _ _ _
  refine AWp.then ⟨[⟨0, none, .lit (.bool x0)⟩], []⟩ (AWp.reg Tryd.tyOk hΓ (keep := []) (dead := []) (by kernel_rfl) rfl (by simp)) ?_
  refine AWp.seq ?_
  refine AWp.then ⟨[⟨3, none, .lit (.bool x0)⟩], []⟩ (AWp.reg Tryd.tyOk hΓ (keep := [3]) (dead := [0]) (by kernel_rfl) rfl (by simp)) ?_
  refine AWp.cond (b := x0) (by simp) (fun h2 => ?_) (fun h2 => ?_)
  · have hr := cond_t h2 hr
    refine AWp.then ⟨[⟨2, none, .lit (.int .u8 1)⟩], []⟩ (AWp.reg Tryd.tyOk hΓ (keep := [2]) (dead := [3]) (by kernel_rfl) rfl (by simp [h2])) ?_
    refine AWp.ret ?_
    obtain rfl := some_inj hr
    refine fin_ret ?_
    simp
  · have hr := cond_f h2 hr
    refine AWp.skip ?_
    refine AWp.then ⟨[⟨2, none, .lit (.int .u8 0)⟩], []⟩ (AWp.reg Tryd.tyOk hΓ (keep := [2]) (dead := [3]) (by kernel_rfl) rfl (by simp [h2])) ?_
    refine AWp.ret ?_
    obtain rfl := some_inj hr
    refine fin_ret ?_
    simp

@[simp] noncomputable def gControlBit.S : Sp
  | [.lit (.bool x0)], _ => some { av := .lit (.int .u8 ((gControlBit x0).getD dflt)), M := none, obl := (gControlBit x0).isSome = true }
  | _, _ => none

set_option maxHeartbeats 1000000 in
theorem gControlBit.ok : SpecOk Tryd.prog 32 gControlBit.S := by
  intro l M out h
  unfold gControlBit.S at h
  split at h
  · rename_i x0
    cases h
    refine callOk_of fun ho => ?_
    have hs := ho
    obtain ⟨r, hr⟩ := Option.isSome_iff_exists.1 hs
    simp only [hr, Option.getD_some]
    have q := call_frame (M := M) [] (gControlBit.can x0 r hr) (by simp) rfl (by intro k i hk; simp at hk)
    exact callOk_conv q trivial (by simp) (by simp [frameOut, gControlBit.out]) (by simp [frameOut, gControlBit.out])
  · cases h

@[simp] def gControlCommandText.out (_x0 : Antiphonref07Command) (r : ByteArray) : Out := { av := .lit (.string r), M := none }
def gControlCommandText.fin (x0 : Antiphonref07Command) (r : ByteArray) (σ : St) : Prop := finK (gControlCommandText.out x0 r) [] σ.M (resA Tryd.ty σ.A σ.M Tryd.f13.results.toList)
set_option maxHeartbeats 4000000 in
set_option maxRecDepth 100000 in
theorem gControlCommandText.can (x0 : Antiphonref07Command) (r : ByteArray) (hr : gControlCommandText x0 = some r) : CallOk Tryd.prog 13 [.agg [.lit (.int .i64 x0.fKind), .lit (.string x0.fRoom), .lit (.string x0.fName), .lit (.int .i64 x0.fPeer), .lit (.int .i64 x0.fOf), .lit (.int .i64 x0.fTrack), .lit (.int .i64 x0.fLayer), .lit (.bool x0.fOn), .lit (.bool x0.fVideo), .sl (x0.fSsrcs.map (eNum .u32)) .no]] [] (gControlCommandText.out x0 r) := by
  unfold gControlCommandText at hr
  have hΓ := (gamL_cons gOctetWriterPut.ok (gamL_cons gOctetWriter.Text.ok (gamL_cons gOctetWriterU16.ok (gamL_cons gOctetWriterU32.ok (gamL_cons gOctetWriter.U8.ok (gamL_cons gControlBit.ok (gamL_cons gControlHas.ok (gamL_nil))))))) : GamOk Tryd.prog _)
  refine call_of_awp Tryd.tyOk Tryd.func13 rfl (by kernel_rfl) rfl rfl (by simp) ?_
  intro _ _ _
  refine AWp.then ⟨[⟨1, none, .ptr 0 0⟩], [.blk x0.enc]⟩ (AWp.reg Tryd.tyOk hΓ (keep := [1]) (dead := [0]) (by kernel_rfl) rfl (by simp)) ?_
  refine AWp.then ⟨[⟨3, none, .ptr 1 0⟩, ⟨1, none, .ptr 0 0⟩], [.blk x0.enc, .opq (wrO 65 5 [])]⟩ (gOctetWriter.alloc rfl rfl rfl rfl (by kernel_rfl) rfl (dead := []) (by simp [exS])) ?_
  obtain ⟨h25, hr⟩ := need_some hr
  refine AWp.then ⟨[⟨3, none, .ptr 1 0⟩, ⟨1, none, .ptr 0 0⟩], [.blk x0.enc, .opq (wrO 65 5 (appL [] [(cvtI .u8 x0.fKind)]))]⟩ (AWp.reg Tryd.tyOk hΓ (keep := []) (dead := []) (by kernel_rfl) rfl (by simp [h25])) ?_
  refine AWp.seq ?_
  obtain ⟨r1, h26, hr⟩ := bind_some' hr
  refine AWp.then ⟨[⟨14, none, .it 2⟩, ⟨3, none, .ptr 1 0⟩, ⟨1, none, .ptr 0 0⟩], [.blk x0.enc, .opq (wrO 65 5 (appL [] [(cvtI .u8 x0.fKind)])), .iter r1 0]⟩ (AWp.reg Tryd.tyOk hΓ (keep := [14]) (dead := []) (by kernel_rfl) rfl (by simp [h26])) ?_
  refine AWp.loopE (fun (s1 : List Int × Nat) (γ1 : Unit) => ⟨[⟨14, none, .it 2⟩, ⟨3, none, .ptr 1 0⟩, ⟨1, none, .ptr 0 0⟩], [.blk x0.enc, .opq (wrO 65 5 s1.1), .iter r1 s1.2]⟩) (fun (v1 : List Int) (γ1a : Unit) => ⟨[⟨3, none, .ptr 1 0⟩], [.blk x0.enc, .opq (wrO 65 5 v1), .dead]⟩) (gControlCommandText.fin x0) hr () 3 (by simp) (fun s1 f γ1 hr => ?_) (fun v1 γ1a σ1 m1 hr hc => ?_) (fun _ h => h)
  · unfold gControlCommandText.loop1 at hr
    cases h27 : (nextB r1 s1.2) with
    | true =>
      have hr := cond_t h27 hr
      refine AWp.then ⟨[⟨15, none, .tup [.lit (.bool true), .lit (.int .i64 (posI s1.2)), .lit (.int .i32 (runeS r1 s1.2))]⟩, ⟨16, none, .lit (.bool true)⟩, ⟨14, none, .it 2⟩, ⟨3, none, .ptr 1 0⟩, ⟨1, none, .ptr 0 0⟩], [.blk x0.enc, .opq (wrO 65 5 s1.1), .iter r1 (stepS r1 s1.2)]⟩ (AWp.reg Tryd.tyOk hΓ (keep := [15, 16]) (dead := []) (by kernel_rfl) rfl (by simp [h27])) ?_
      refine AWp.seq ?_
      refine AWp.cond (b := true) (by simp) (fun hb => ?_) (fun hb => ?_)
      · refine AWp.skip ?_
        refine AWp.block ?_
        refine AWp.then ⟨[⟨5, none, .lit (.int .i32 (runeS r1 s1.2))⟩, ⟨14, none, .it 2⟩, ⟨3, none, .ptr 1 0⟩, ⟨1, none, .ptr 0 0⟩], [.blk x0.enc, .opq (wrO 65 5 s1.1), .iter r1 (stepS r1 s1.2)]⟩ (AWp.reg Tryd.tyOk hΓ (keep := [5]) (dead := [15, 16]) (by kernel_rfl) rfl (by simp)) ?_
        refine AWp.then ⟨[⟨18, none, .lit (.int .i32 (runeS r1 s1.2))⟩, ⟨14, none, .it 2⟩, ⟨3, none, .ptr 1 0⟩, ⟨1, none, .ptr 0 0⟩], [.blk x0.enc, .opq (wrO 65 5 s1.1), .iter r1 (stepS r1 s1.2)]⟩ (AWp.reg Tryd.tyOk hΓ (keep := [18]) (dead := [5]) (by kernel_rfl) rfl (by simp)) ?_
        refine AWp.block ?_
        refine AWp.then ⟨[⟨19, none, .lit (.bool (eqI (runeS r1 s1.2) 114))⟩, ⟨18, none, .lit (.int .i32 (runeS r1 s1.2))⟩, ⟨14, none, .it 2⟩, ⟨3, none, .ptr 1 0⟩, ⟨1, none, .ptr 0 0⟩], [.blk x0.enc, .opq (wrO 65 5 s1.1), .iter r1 (stepS r1 s1.2)]⟩ (AWp.reg Tryd.tyOk hΓ (keep := [19]) (dead := []) (by kernel_rfl) rfl (by simp)) ?_
        refine AWp.cond (b := (eqI (runeS r1 s1.2) 114)) (by simp) (fun h28 => ?_) (fun h28 => ?_)
        · have hr := cond_t h28 hr
          obtain ⟨h29, hr⟩ := need_some hr
          obtain ⟨r2, h30, hr⟩ := bind_some' hr
          obtain ⟨h31, hr⟩ := need_some hr
          obtain ⟨r3, h32, hr⟩ := bind_some' hr
          refine AWp.last ⟨[⟨14, none, .it 2⟩, ⟨3, none, .ptr 1 0⟩, ⟨1, none, .ptr 0 0⟩], [.blk x0.enc, .opq (wrO 65 5 r3), .iter r1 (stepS r1 s1.2)]⟩ (AWp.regD Tryd.mixed Tryd.tyOk hΓ (keep := []) (dead := [19, 18]) [(6, 0), (7, 0), (8, 0), (10, 0), (10, 6), (11, 0), (11, 6), (12, 0), (12, 6), (13, 0), (13, 6), (14, 0), (14, 6), (16, 0), (16, 6), (16, 10), (17, 0), (17, 6), (17, 10), (18, 0), (18, 6), (18, 10)] [(false, []), (false, []), (false, []), (false, []), (false, []), (true, []), (false, []), (false, []), (false, []), (true, []), (false, []), (false, []), (false, []), (false, []), (false, []), (true, []), (false, []), (false, []), (false, []), (true, [])] (by kernel_rfl) rfl (by simp [h28, h29, h30, h31, h32])) ?_
          obtain rfl := some_inj hr
          exact round_go () 3 (by first | (simp; done) | simp [h25, h26, h27, h28, h29, h30, h31, h32])
        · have hr := cond_f h28 hr
          refine AWp.then ⟨[⟨41, none, .lit (.bool (eqI (runeS r1 s1.2) 112))⟩, ⟨18, none, .lit (.int .i32 (runeS r1 s1.2))⟩, ⟨14, none, .it 2⟩, ⟨3, none, .ptr 1 0⟩, ⟨1, none, .ptr 0 0⟩], [.blk x0.enc, .opq (wrO 65 5 s1.1), .iter r1 (stepS r1 s1.2)]⟩ (AWp.reg Tryd.tyOk hΓ (keep := [41]) (dead := [19]) (by kernel_rfl) rfl (by simp [h28])) ?_
          refine AWp.cond (b := (eqI (runeS r1 s1.2) 112)) (by simp) (fun h33 => ?_) (fun h33 => ?_)
          · have hr := cond_t h33 hr
            obtain ⟨r4, h34, hr⟩ := bind_some' hr
            refine AWp.last ⟨[⟨14, none, .it 2⟩, ⟨3, none, .ptr 1 0⟩, ⟨1, none, .ptr 0 0⟩], [.blk x0.enc, .opq (wrO 65 5 r4), .iter r1 (stepS r1 s1.2)]⟩ (AWp.reg Tryd.tyOk hΓ (keep := []) (dead := [41, 18]) (by kernel_rfl) rfl (by simp [h33, h34])) ?_
            obtain rfl := some_inj hr
            exact round_go () 3 (by first | (simp; done) | simp [h25, h26, h27, h28, h33, h34])
          · have hr := cond_f h33 hr
            refine AWp.then ⟨[⟨48, none, .lit (.bool (eqI (runeS r1 s1.2) 111))⟩, ⟨18, none, .lit (.int .i32 (runeS r1 s1.2))⟩, ⟨14, none, .it 2⟩, ⟨3, none, .ptr 1 0⟩, ⟨1, none, .ptr 0 0⟩], [.blk x0.enc, .opq (wrO 65 5 s1.1), .iter r1 (stepS r1 s1.2)]⟩ (AWp.reg Tryd.tyOk hΓ (keep := [48]) (dead := [41]) (by kernel_rfl) rfl (by simp [h33])) ?_
            refine AWp.cond (b := (eqI (runeS r1 s1.2) 111)) (by simp) (fun h35 => ?_) (fun h35 => ?_)
            · have hr := cond_t h35 hr
              obtain ⟨r5, h36, hr⟩ := bind_some' hr
              refine AWp.last ⟨[⟨14, none, .it 2⟩, ⟨3, none, .ptr 1 0⟩, ⟨1, none, .ptr 0 0⟩], [.blk x0.enc, .opq (wrO 65 5 r5), .iter r1 (stepS r1 s1.2)]⟩ (AWp.reg Tryd.tyOk hΓ (keep := []) (dead := [48, 18]) (by kernel_rfl) rfl (by simp [h35, h36])) ?_
              obtain rfl := some_inj hr
              exact round_go () 3 (by first | (simp; done) | simp [h25, h26, h27, h28, h33, h35, h36])
            · have hr := cond_f h35 hr
              refine AWp.then ⟨[⟨55, none, .lit (.bool (eqI (runeS r1 s1.2) 116))⟩, ⟨18, none, .lit (.int .i32 (runeS r1 s1.2))⟩, ⟨14, none, .it 2⟩, ⟨3, none, .ptr 1 0⟩, ⟨1, none, .ptr 0 0⟩], [.blk x0.enc, .opq (wrO 65 5 s1.1), .iter r1 (stepS r1 s1.2)]⟩ (AWp.reg Tryd.tyOk hΓ (keep := [55]) (dead := [48]) (by kernel_rfl) rfl (by simp [h35])) ?_
              refine AWp.cond (b := (eqI (runeS r1 s1.2) 116)) (by simp) (fun h37 => ?_) (fun h37 => ?_)
              · have hr := cond_t h37 hr
                obtain ⟨h38, hr⟩ := need_some hr
                refine AWp.last ⟨[⟨14, none, .it 2⟩, ⟨3, none, .ptr 1 0⟩, ⟨1, none, .ptr 0 0⟩], [.blk x0.enc, .opq (wrO 65 5 (appL s1.1 [(cvtI .u8 x0.fTrack)])), .iter r1 (stepS r1 s1.2)]⟩ (AWp.reg Tryd.tyOk hΓ (keep := []) (dead := [55, 18]) (by kernel_rfl) rfl (by simp [h37, h38])) ?_
                obtain rfl := some_inj hr
                exact round_go () 3 (by first | (simp; done) | simp [h25, h26, h27, h28, h33, h35, h37, h38])
              · have hr := cond_f h37 hr
                refine AWp.then ⟨[⟨62, none, .lit (.bool (eqI (runeS r1 s1.2) 108))⟩, ⟨18, none, .lit (.int .i32 (runeS r1 s1.2))⟩, ⟨14, none, .it 2⟩, ⟨3, none, .ptr 1 0⟩, ⟨1, none, .ptr 0 0⟩], [.blk x0.enc, .opq (wrO 65 5 s1.1), .iter r1 (stepS r1 s1.2)]⟩ (AWp.reg Tryd.tyOk hΓ (keep := [62]) (dead := [55]) (by kernel_rfl) rfl (by simp [h37])) ?_
                refine AWp.cond (b := (eqI (runeS r1 s1.2) 108)) (by simp) (fun h39 => ?_) (fun h39 => ?_)
                · have hr := cond_t h39 hr
                  obtain ⟨h40, hr⟩ := need_some hr
                  refine AWp.last ⟨[⟨14, none, .it 2⟩, ⟨3, none, .ptr 1 0⟩, ⟨1, none, .ptr 0 0⟩], [.blk x0.enc, .opq (wrO 65 5 (appL s1.1 [(cvtI .u8 x0.fLayer)])), .iter r1 (stepS r1 s1.2)]⟩ (AWp.reg Tryd.tyOk hΓ (keep := []) (dead := [62, 18]) (by kernel_rfl) rfl (by simp [h39, h40])) ?_
                  obtain rfl := some_inj hr
                  exact round_go () 3 (by first | (simp; done) | simp [h25, h26, h27, h28, h33, h35, h37, h39, h40])
                · have hr := cond_f h39 hr
                  refine AWp.then ⟨[⟨69, none, .lit (.bool (eqI (runeS r1 s1.2) 98))⟩, ⟨18, none, .lit (.int .i32 (runeS r1 s1.2))⟩, ⟨14, none, .it 2⟩, ⟨3, none, .ptr 1 0⟩, ⟨1, none, .ptr 0 0⟩], [.blk x0.enc, .opq (wrO 65 5 s1.1), .iter r1 (stepS r1 s1.2)]⟩ (AWp.reg Tryd.tyOk hΓ (keep := [69]) (dead := [62]) (by kernel_rfl) rfl (by simp [h39])) ?_
                  refine AWp.cond (b := (eqI (runeS r1 s1.2) 98)) (by simp) (fun h41 => ?_) (fun h41 => ?_)
                  · have hr := cond_t h41 hr
                    obtain ⟨r6, h42, hr⟩ := bind_some' hr
                    obtain ⟨h43, hr⟩ := need_some hr
                    refine AWp.last ⟨[⟨14, none, .it 2⟩, ⟨3, none, .ptr 1 0⟩, ⟨1, none, .ptr 0 0⟩], [.blk x0.enc, .opq (wrO 65 5 (appL s1.1 [r6])), .iter r1 (stepS r1 s1.2)]⟩ (AWp.reg Tryd.tyOk hΓ (keep := []) (dead := [69, 18]) (by kernel_rfl) rfl (by simp [h41, h42, h43])) ?_
                    obtain rfl := some_inj hr
                    exact round_go () 3 (by first | (simp; done) | simp [h25, h26, h27, h28, h33, h35, h37, h39, h41, h42, h43])
                  · have hr := cond_f h41 hr
                    refine AWp.then ⟨[⟨76, none, .lit (.bool (eqI (runeS r1 s1.2) 115))⟩, ⟨14, none, .it 2⟩, ⟨3, none, .ptr 1 0⟩, ⟨1, none, .ptr 0 0⟩], [.blk x0.enc, .opq (wrO 65 5 s1.1), .iter r1 (stepS r1 s1.2)]⟩ (AWp.reg Tryd.tyOk hΓ (keep := [76]) (dead := [69, 18]) (by kernel_rfl) rfl (by simp [h41])) ?_
                    refine AWp.cond (b := (eqI (runeS r1 s1.2) 115)) (by simp) (fun h44 => ?_) (fun h44 => ?_)
                    · have hr := cond_t h44 hr
                      obtain ⟨r7, h45, hr⟩ := bind_some' hr
                      obtain ⟨h46, hr⟩ := need_some hr
                      obtain ⟨r8, h47, hr⟩ := bind_some' hr
                      refine AWp.last ⟨[⟨14, none, .it 2⟩, ⟨3, none, .ptr 1 0⟩, ⟨1, none, .ptr 0 0⟩], [.blk x0.enc, .opq (wrO 65 5 r8), .iter r1 (stepS r1 s1.2)]⟩ (AWp.regD Tryd.mixed Tryd.tyOk hΓ (keep := []) (dead := [76]) [(9, 0), (10, 0)] [(false, []), (false, []), (false, []), (false, []), (false, []), (false, []), (false, []), (false, []), (true, []), (false, []), (false, []), (true, [])] (by kernel_rfl) rfl (by simp [h44, h45, h46, h47])) ?_
                      obtain rfl := some_inj hr
                      exact round_go () 3 (by first | (simp; done) | simp [h25, h26, h27, h28, h33, h35, h37, h39, h41, h44, h45, h46, h47])
                    · have hr := cond_f h44 hr
                      refine AWp.skip ?_
                      obtain rfl := some_inj hr
                      exact round_go () 3 (by first | (simp; done) | simp [h25, h26, h27, h28, h33, h35, h37, h39, h41, h44])
      · cases hb
    | false =>
      have hr := cond_f h27 hr
      refine AWp.then ⟨[⟨15, none, .tup [.lit (.bool false)]⟩, ⟨16, none, .lit (.bool false)⟩, ⟨14, none, .it 2⟩, ⟨3, none, .ptr 1 0⟩, ⟨1, none, .ptr 0 0⟩], [.blk x0.enc, .opq (wrO 65 5 s1.1), .iter r1 s1.2]⟩ (AWp.reg Tryd.tyOk hΓ (keep := [15, 16]) (dead := []) (by kernel_rfl) rfl (by simp [h27])) ?_
      refine AWp.seq ?_
      refine AWp.cond (b := false) (by simp) (fun hb => ?_) (fun hb => ?_)
      · cases hb
      · refine AWp.exit ?_
        obtain rfl := some_inj hr
        exact round_out () 3 (by first | (simp; done) | simp [h25, h26, h27])
  · refine AWp.conv hc ?_
    obtain ⟨h48, hr⟩ := need_some hr
    refine AWp.then ⟨[⟨2, none, .lit (.string (strOfNums v1))⟩], [.blk x0.enc, .opq wrX, .dead]⟩ (AWp.reg Tryd.tyOk hΓ (keep := [2]) (dead := [3]) (by kernel_rfl) rfl (by simp [h48])) ?_
    refine AWp.ret ?_
    obtain rfl := some_inj hr
    refine fin_ret ?_
    simp

@[simp] noncomputable def gControlCommandText.S : Sp
  | [.agg e0], _ => some { av := .lit (.string ((gControlCommandText (Antiphonref07Command.dec e0)).getD dflt)), M := none, obl := WeakL e0 (Antiphonref07Command.enc (Antiphonref07Command.dec e0)) ∧ (gControlCommandText (Antiphonref07Command.dec e0)).isSome = true }
  | _, _ => none

set_option maxHeartbeats 1000000 in
theorem gControlCommandText.ok : SpecOk Tryd.prog 13 gControlCommandText.S := by
  intro l M out h
  unfold gControlCommandText.S at h
  split at h
  · rename_i e0
    cases h
    refine callOk_of fun ho => ?_
    obtain ⟨ox0, hs⟩ := ho
    generalize (Antiphonref07Command.dec e0) = x0 at *
    obtain ⟨r, hr⟩ := Option.isSome_iff_exists.1 hs
    simp only [hr, Option.getD_some]
    have q := call_frame (M := M) [] (gControlCommandText.can x0 r hr) (by simp) rfl (by intro k i hk; simp at hk)
    exact callOk_conv q trivial (by simp; exact ox0) (by simp [frameOut, gControlCommandText.out]) (by simp [frameOut, gControlCommandText.out])
  · cases h
end Go.Proofs

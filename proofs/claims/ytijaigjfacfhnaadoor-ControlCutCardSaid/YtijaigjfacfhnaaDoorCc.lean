/- That these functions compute what their plain functions do. No condition. -/
import Derived.Test.YtijaigjfacfhnaaDoorM09
import Derived.Test.YtijaigjfacfhnaaDoorTy
import Derived.Test.YtijaigjfacfhnaaDoorM02
import Derived.Test.YtijaigjfacfhnaaDoorNb
import Derived.Test.YtijaigjfacfhnaaDoorOy
namespace Go.Proofs
open Go.Ab
@[simp] def gRef07Peer.out (_x0 : Int) (r : Bool) : Out := { av := .lit (.bool r), M := none }
def gRef07Peer.fin (x0 : Int) (r : Bool) (σ : St) : Prop := finK (gRef07Peer.out x0 r) [] σ.M (resA Tryd.ty σ.A σ.M Tryd.f39.results.toList)
set_option maxHeartbeats 4000000 in
set_option maxRecDepth 100000 in
theorem gRef07Peer.can (x0 : Int) (r : Bool) (hr : gRef07Peer x0 = some r) : CallOk Tryd.prog 39 [.lit (.int .i64 x0)] [] (gRef07Peer.out x0 r) := by
  unfold gRef07Peer at hr
  have hΓ := gamL_nil (P := Tryd.prog)
  refine call_of_awp Tryd.tyOk Tryd.func39 rfl (by kernel_rfl) rfl rfl (by simp) ?_
  intro _ _ _
  refine AWp.then ⟨[⟨0, none, .lit (.int .i64 x0)⟩], []⟩ (AWp.reg Tryd.tyOk hΓ (keep := []) (dead := []) (by kernel_rfl) rfl (by simp)) ?_
  refine AWp.then ⟨[⟨2, none, .lit (.bool (pickB (leqI 2 x0) (leqI x0 8) false))⟩], []⟩ (AWp.reg Tryd.tyOk hΓ (keep := [2]) (dead := [0]) (by kernel_rfl) rfl (by simp)) ?_
  refine AWp.ret ?_
  obtain rfl := some_inj hr
  refine fin_ret ?_
  simp

@[simp] noncomputable def gRef07Peer.S : Sp
  | [.lit (.int .i64 x0)], _ => some { av := .lit (.bool ((gRef07Peer x0).getD dflt)), M := none, obl := (gRef07Peer x0).isSome = true }
  | _, _ => none

set_option maxHeartbeats 1000000 in
theorem gRef07Peer.ok : SpecOk Tryd.prog 39 gRef07Peer.S := by
  intro l M out h
  unfold gRef07Peer.S at h
  split at h
  · rename_i x0
    cases h
    refine callOk_of fun ho => ?_
    have hs := ho
    obtain ⟨r, hr⟩ := Option.isSome_iff_exists.1 hs
    simp only [hr, Option.getD_some]
    have q := call_frame (M := M) [] (gRef07Peer.can x0 r hr) (by simp) rfl (by intro k i hk; simp at hk)
    exact callOk_conv q trivial (by simp) (by simp [frameOut, gRef07Peer.out]) (by simp [frameOut, gRef07Peer.out])
  · cases h

@[simp] def gRef07Of.out (_x0 : Int) (r : Bool) : Out := { av := .lit (.bool r), M := none }
def gRef07Of.fin (x0 : Int) (r : Bool) (σ : St) : Prop := finK (gRef07Of.out x0 r) [] σ.M (resA Tryd.ty σ.A σ.M Tryd.f40.results.toList)
set_option maxHeartbeats 4000000 in
set_option maxRecDepth 100000 in
theorem gRef07Of.can (x0 : Int) (r : Bool) (hr : gRef07Of x0 = some r) : CallOk Tryd.prog 40 [.lit (.int .i64 x0)] [] (gRef07Of.out x0 r) := by
  unfold gRef07Of at hr
  have hΓ := gamL_nil (P := Tryd.prog)
  refine call_of_awp Tryd.tyOk Tryd.func40 rfl (by kernel_rfl) rfl rfl (by simp) ?_
  intro _ _ _
  refine AWp.then ⟨[⟨0, none, .lit (.int .i64 x0)⟩], []⟩ (AWp.reg Tryd.tyOk hΓ (keep := []) (dead := []) (by kernel_rfl) rfl (by simp)) ?_
  refine AWp.then ⟨[⟨2, none, .lit (.bool (pickB (pickB (eqI x0 5) true (eqI x0 6)) true (eqI x0 8)))⟩], []⟩ (AWp.reg Tryd.tyOk hΓ (keep := [2]) (dead := [0]) (by kernel_rfl) rfl (by simp)) ?_
  refine AWp.ret ?_
  obtain rfl := some_inj hr
  refine fin_ret ?_
  simp

@[simp] noncomputable def gRef07Of.S : Sp
  | [.lit (.int .i64 x0)], _ => some { av := .lit (.bool ((gRef07Of x0).getD dflt)), M := none, obl := (gRef07Of x0).isSome = true }
  | _, _ => none

set_option maxHeartbeats 1000000 in
theorem gRef07Of.ok : SpecOk Tryd.prog 40 gRef07Of.S := by
  intro l M out h
  unfold gRef07Of.S at h
  split at h
  · rename_i x0
    cases h
    refine callOk_of fun ho => ?_
    have hs := ho
    obtain ⟨r, hr⟩ := Option.isSome_iff_exists.1 hs
    simp only [hr, Option.getD_some]
    have q := call_frame (M := M) [] (gRef07Of.can x0 r hr) (by simp) rfl (by intro k i hk; simp at hk)
    exact callOk_conv q trivial (by simp) (by simp [frameOut, gRef07Of.out]) (by simp [frameOut, gRef07Of.out])
  · cases h

@[simp] def gRef07Track.out (_x0 : Int) (r : Bool) : Out := { av := .lit (.bool r), M := none }
def gRef07Track.fin (x0 : Int) (r : Bool) (σ : St) : Prop := finK (gRef07Track.out x0 r) [] σ.M (resA Tryd.ty σ.A σ.M Tryd.f41.results.toList)
set_option maxHeartbeats 4000000 in
set_option maxRecDepth 100000 in
theorem gRef07Track.can (x0 : Int) (r : Bool) (hr : gRef07Track x0 = some r) : CallOk Tryd.prog 41 [.lit (.int .i64 x0)] [] (gRef07Track.out x0 r) := by
  unfold gRef07Track at hr
  have hΓ := gamL_nil (P := Tryd.prog)
  refine call_of_awp Tryd.tyOk Tryd.func41 rfl (by kernel_rfl) rfl rfl (by simp) ?_
  intro _ _ _
  refine AWp.then ⟨[⟨0, none, .lit (.int .i64 x0)⟩], []⟩ (AWp.reg Tryd.tyOk hΓ (keep := []) (dead := []) (by kernel_rfl) rfl (by simp)) ?_
  refine AWp.then ⟨[⟨2, none, .lit (.bool (pickB (leqI 3 x0) (leqI x0 8) false))⟩], []⟩ (AWp.reg Tryd.tyOk hΓ (keep := [2]) (dead := [0]) (by kernel_rfl) rfl (by simp)) ?_
  refine AWp.ret ?_
  obtain rfl := some_inj hr
  refine fin_ret ?_
  simp

@[simp] noncomputable def gRef07Track.S : Sp
  | [.lit (.int .i64 x0)], _ => some { av := .lit (.bool ((gRef07Track x0).getD dflt)), M := none, obl := (gRef07Track x0).isSome = true }
  | _, _ => none

set_option maxHeartbeats 1000000 in
theorem gRef07Track.ok : SpecOk Tryd.prog 41 gRef07Track.S := by
  intro l M out h
  unfold gRef07Track.S at h
  split at h
  · rename_i x0
    cases h
    refine callOk_of fun ho => ?_
    have hs := ho
    obtain ⟨r, hr⟩ := Option.isSome_iff_exists.1 hs
    simp only [hr, Option.getD_some]
    have q := call_frame (M := M) [] (gRef07Track.can x0 r hr) (by simp) rfl (by intro k i hk; simp at hk)
    exact callOk_conv q trivial (by simp) (by simp [frameOut, gRef07Track.out]) (by simp [frameOut, gRef07Track.out])
  · cases h

@[simp] def gRef07Good.out (_x0 : Int) (r : Bool) : Out := { av := .lit (.bool r), M := none }
def gRef07Good.fin (x0 : Int) (r : Bool) (σ : St) : Prop := finK (gRef07Good.out x0 r) [] σ.M (resA Tryd.ty σ.A σ.M Tryd.f42.results.toList)
set_option maxHeartbeats 4000000 in
set_option maxRecDepth 100000 in
theorem gRef07Good.can (x0 : Int) (r : Bool) (hr : gRef07Good x0 = some r) : CallOk Tryd.prog 42 [.lit (.int .i64 x0)] [] (gRef07Good.out x0 r) := by
  unfold gRef07Good at hr
  have hΓ := gamL_nil (P := Tryd.prog)
  refine call_of_awp Tryd.tyOk Tryd.func42 rfl (by kernel_rfl) rfl rfl (by simp) ?_
  intro _ _ _
  refine AWp.then ⟨[⟨0, none, .lit (.int .i64 x0)⟩], []⟩ (AWp.reg Tryd.tyOk hΓ (keep := []) (dead := []) (by kernel_rfl) rfl (by simp)) ?_
  refine AWp.then ⟨[⟨2, none, .lit (.bool (pickB (leqI 0 x0) (leqI x0 65535) false))⟩], []⟩ (AWp.reg Tryd.tyOk hΓ (keep := [2]) (dead := [0]) (by kernel_rfl) rfl (by simp)) ?_
  refine AWp.ret ?_
  obtain rfl := some_inj hr
  refine fin_ret ?_
  simp

@[simp] noncomputable def gRef07Good.S : Sp
  | [.lit (.int .i64 x0)], _ => some { av := .lit (.bool ((gRef07Good x0).getD dflt)), M := none, obl := (gRef07Good x0).isSome = true }
  | _, _ => none

set_option maxHeartbeats 1000000 in
theorem gRef07Good.ok : SpecOk Tryd.prog 42 gRef07Good.S := by
  intro l M out h
  unfold gRef07Good.S at h
  split at h
  · rename_i x0
    cases h
    refine callOk_of fun ho => ?_
    have hs := ho
    obtain ⟨r, hr⟩ := Option.isSome_iff_exists.1 hs
    simp only [hr, Option.getD_some]
    have q := call_frame (M := M) [] (gRef07Good.can x0 r hr) (by simp) rfl (by intro k i hk; simp at hk)
    exact callOk_conv q trivial (by simp) (by simp [frameOut, gRef07Good.out]) (by simp [frameOut, gRef07Good.out])
  · cases h

@[simp] def gRef07Sources.out (_x0 : Antiphonref07Command) (r : Int) : Out := { av := .lit (.int .i64 r), M := none }
def gRef07Sources.fin (x0 : Antiphonref07Command) (r : Int) (σ : St) : Prop := finK (gRef07Sources.out x0 r) [] σ.M (resA Tryd.ty σ.A σ.M Tryd.f44.results.toList)
set_option maxHeartbeats 4000000 in
set_option maxRecDepth 100000 in
theorem gRef07Sources.can (x0 : Antiphonref07Command) (r : Int) (hr : gRef07Sources x0 = some r) : CallOk Tryd.prog 44 [.agg [.lit (.int .i64 x0.fKind), .lit (.string x0.fRoom), .lit (.string x0.fName), .lit (.int .i64 x0.fPeer), .lit (.int .i64 x0.fOf), .lit (.int .i64 x0.fTrack), .lit (.int .i64 x0.fLayer), .lit (.bool x0.fOn), .lit (.bool x0.fVideo), .sl (x0.fSsrcs.map (eNum .u32)) .no]] [] (gRef07Sources.out x0 r) := by
  unfold gRef07Sources at hr
  have hΓ := gamL_nil (P := Tryd.prog)
  refine call_of_awp Tryd.tyOk Tryd.func44 rfl (by kernel_rfl) rfl rfl (by simp) ?_
  intro _ _ _
  refine AWp.then ⟨[⟨1, none, .ptr 0 0⟩], [.blk x0.enc]⟩ (AWp.reg Tryd.tyOk hΓ (keep := [1]) (dead := [0]) (by kernel_rfl) rfl (by simp)) ?_
  refine AWp.seq ?_
  refine AWp.then ⟨[⟨25, none, .lit (.bool (pickB (pickB (ltI (lenL x0.fSsrcs) 1) true (ltI 3 (lenL x0.fSsrcs))) true (pickB (ltI 1 (lenL x0.fSsrcs)) (notB x0.fVideo) false)))⟩, ⟨1, none, .ptr 0 0⟩], [.blk x0.enc]⟩ (AWp.reg Tryd.tyOk hΓ (keep := [25]) (dead := []) (by kernel_rfl) rfl (by simp)) ?_
  refine AWp.cond (b := (pickB (pickB (ltI (lenL x0.fSsrcs) 1) true (ltI 3 (lenL x0.fSsrcs))) true (pickB (ltI 1 (lenL x0.fSsrcs)) (notB x0.fVideo) false))) (by simp) (fun h7 => ?_) (fun h7 => ?_)
  · have hr := cond_t h7 hr
    refine AWp.then ⟨[⟨2, none, .lit (.int .i64 5)⟩], [.blk x0.enc]⟩ (AWp.reg Tryd.tyOk hΓ (keep := [2]) (dead := [25, 1]) (by kernel_rfl) rfl (by simp [h7])) ?_
    refine AWp.ret ?_
    obtain rfl := some_inj hr
    refine fin_ret ?_
    simp
  · have hr := cond_f h7 hr
    refine AWp.skip ?_
    refine AWp.seq ?_
    refine AWp.then ⟨[⟨28, none, .lit (.int .i64 (lenL x0.fSsrcs))⟩, ⟨29, none, .lit (.int .i64 0)⟩, ⟨1, none, .ptr 0 0⟩], [.blk x0.enc]⟩ (AWp.reg Tryd.tyOk hΓ (keep := [28, 29]) (dead := [25]) (by kernel_rfl) rfl (by simp [h7])) ?_
    refine AWp.loopE (fun (s1 : Int) (γ1 : Unit) => ⟨[⟨28, none, .lit (.int .i64 (lenL x0.fSsrcs))⟩, ⟨29, none, .lit (.int .i64 s1)⟩, ⟨1, none, .ptr 0 0⟩], [.blk x0.enc]⟩) (fun (v1 : Unit) (γ1a : Unit) => ⟨[], [.blk x0.enc]⟩) (gRef07Sources.fin x0) hr () 1 (by simp) (fun s1 f γ1 hr => ?_) (fun v1 γ1a σ1 m1 hr hc => ?_) (fun _ h => h)
    · unfold gRef07Sources.loop1 at hr
      refine AWp.then ⟨[⟨30, none, .lit (.bool (ltI s1 (lenL x0.fSsrcs)))⟩, ⟨28, none, .lit (.int .i64 (lenL x0.fSsrcs))⟩, ⟨29, none, .lit (.int .i64 s1)⟩, ⟨1, none, .ptr 0 0⟩], [.blk x0.enc]⟩ (AWp.reg Tryd.tyOk hΓ (keep := [30]) (dead := []) (by kernel_rfl) rfl (by simp)) ?_
      refine AWp.seq ?_
      refine AWp.cond (b := (ltI s1 (lenL x0.fSsrcs))) (by simp) (fun h8 => ?_) (fun h8 => ?_)
      · have hr := cond_t h8 hr
        refine AWp.skip ?_
        refine AWp.seq ?_
        refine AWp.block ?_
        refine AWp.then ⟨[⟨3, none, .lit (.int .i64 s1)⟩, ⟨28, none, .lit (.int .i64 (lenL x0.fSsrcs))⟩, ⟨29, none, .lit (.int .i64 s1)⟩, ⟨1, none, .ptr 0 0⟩], [.blk x0.enc]⟩ (AWp.reg Tryd.tyOk hΓ (keep := [3]) (dead := [30]) (by kernel_rfl) rfl (by simp [h8])) ?_
        refine AWp.then ⟨[⟨4, none, .lit (.int .i64 0)⟩, ⟨3, none, .lit (.int .i64 s1)⟩, ⟨28, none, .lit (.int .i64 (lenL x0.fSsrcs))⟩, ⟨29, none, .lit (.int .i64 s1)⟩, ⟨1, none, .ptr 0 0⟩], [.blk x0.enc]⟩ (AWp.reg Tryd.tyOk hΓ (keep := [4]) (dead := []) (by kernel_rfl) rfl (by simp)) ?_
        refine AWp.loopE (fun (s2 : Int) (γ2 : Unit) => ⟨[⟨4, none, .lit (.int .i64 s2)⟩, ⟨3, none, .lit (.int .i64 s1)⟩, ⟨28, none, .lit (.int .i64 (lenL x0.fSsrcs))⟩, ⟨29, none, .lit (.int .i64 s1)⟩, ⟨1, none, .ptr 0 0⟩], [.blk x0.enc]⟩) (fun (v2 : Unit) (γ2a : Unit) => ⟨[⟨28, none, .lit (.int .i64 (lenL x0.fSsrcs))⟩, ⟨29, none, .lit (.int .i64 s1)⟩, ⟨1, none, .ptr 0 0⟩], [.blk x0.enc]⟩) (QRr (gRef07Sources.fin x0)) hr () 1 (by simp) (fun s2 f γ2 hr => ?_) (fun v2 γ2a σ1 m1 hr hc => ?_) (fun _ h => QRr_ret h)
        · unfold gRef07Sources.loop2 at hr
          refine AWp.seq ?_
          refine AWp.then ⟨[⟨34, none, .lit (.bool (ltI s2 s1))⟩, ⟨4, none, .lit (.int .i64 s2)⟩, ⟨3, none, .lit (.int .i64 s1)⟩, ⟨28, none, .lit (.int .i64 (lenL x0.fSsrcs))⟩, ⟨29, none, .lit (.int .i64 s1)⟩, ⟨1, none, .ptr 0 0⟩], [.blk x0.enc]⟩ (AWp.reg Tryd.tyOk hΓ (keep := [34]) (dead := []) (by kernel_rfl) rfl (by simp)) ?_
          refine AWp.cond (b := (ltI s2 s1)) (by simp) (fun h9 => ?_) (fun h9 => ?_)
          · have hr := cond_t h9 hr
            refine AWp.skip ?_
            refine AWp.seq ?_
            refine AWp.block ?_
            obtain ⟨h10, hr⟩ := need_some hr
            obtain ⟨h11, hr⟩ := need_some hr
            refine AWp.then ⟨[⟨47, none, .lit (.bool (eqI (nthI x0.fSsrcs s1) (nthI x0.fSsrcs s2)))⟩, ⟨4, none, .lit (.int .i64 s2)⟩, ⟨3, none, .lit (.int .i64 s1)⟩, ⟨28, none, .lit (.int .i64 (lenL x0.fSsrcs))⟩, ⟨29, none, .lit (.int .i64 s1)⟩, ⟨1, none, .ptr 0 0⟩], [.blk x0.enc]⟩ (AWp.regD Tryd.mixed Tryd.tyOk hΓ (keep := [47]) (dead := [34]) [] [(false, []), (false, []), (false, []), (false, []), (false, []), (false, []), (false, []), (false, []), (false, []), (false, []), (false, [])] (by kernel_rfl) rfl (by simp [h9, h10, h11])) ?_
            refine AWp.cond (b := (eqI (nthI x0.fSsrcs s1) (nthI x0.fSsrcs s2))) (by simp) (fun h12 => ?_) (fun h12 => ?_)
            · have hr := cond_t h12 hr
              refine AWp.then ⟨[⟨2, none, .lit (.int .i64 10)⟩], [.blk x0.enc]⟩ (AWp.reg Tryd.tyOk hΓ (keep := [2]) (dead := [47, 4, 3, 28, 29, 1]) (by kernel_rfl) rfl (by simp [h12])) ?_
              refine AWp.ret ?_
              obtain rfl := some_inj hr
              refine round_ret ?_
              refine ⟨_, rfl, ?_⟩
              refine fin_ret ?_
              simp
            · have hr := cond_f h12 hr
              refine AWp.skip ?_
              refine AWp.last ⟨[⟨4, none, .lit (.int .i64 (addI .i64 s2 1))⟩, ⟨3, none, .lit (.int .i64 s1)⟩, ⟨28, none, .lit (.int .i64 (lenL x0.fSsrcs))⟩, ⟨29, none, .lit (.int .i64 s1)⟩, ⟨1, none, .ptr 0 0⟩], [.blk x0.enc]⟩ (AWp.reg Tryd.tyOk hΓ (keep := [4]) (dead := [47]) (by kernel_rfl) rfl (by simp [h12])) ?_
              obtain rfl := some_inj hr
              exact round_go () 1 (by first | (simp; done) | simp [h7, h8, h9, h10, h11, h12])
          · have hr := cond_f h9 hr
            refine AWp.exit ?_
            obtain rfl := some_inj hr
            exact round_out () 1 (by first | (simp; done) | simp [h7, h8, h9])
        · refine AWp.conv hc ?_
          refine AWp.last ⟨[⟨29, none, .lit (.int .i64 (addI .i64 s1 1))⟩, ⟨28, none, .lit (.int .i64 (lenL x0.fSsrcs))⟩, ⟨1, none, .ptr 0 0⟩], [.blk x0.enc]⟩ (AWp.reg Tryd.tyOk hΓ (keep := [29]) (dead := []) (by kernel_rfl) rfl (by simp)) ?_
          obtain rfl := some_inj hr
          exact round_go () 1 (by first | (simp; done) | simp [h7, h8])
      · have hr := cond_f h8 hr
        refine AWp.exit ?_
        obtain rfl := some_inj hr
        exact round_out () 1 (by first | (simp; done) | simp [h7, h8])
    · refine AWp.conv hc ?_
      refine AWp.then ⟨[⟨2, none, .lit (.int .i64 0)⟩], [.blk x0.enc]⟩ (AWp.reg Tryd.tyOk hΓ (keep := [2]) (dead := []) (by kernel_rfl) rfl (by simp)) ?_
      refine AWp.ret ?_
      obtain rfl := some_inj hr
      refine fin_ret ?_
      simp

@[simp] noncomputable def gRef07Sources.S : Sp
  | [.agg e0], _ => some { av := .lit (.int .i64 ((gRef07Sources (Antiphonref07Command.dec e0)).getD dflt)), M := none, obl := WeakL e0 (Antiphonref07Command.enc (Antiphonref07Command.dec e0)) ∧ (gRef07Sources (Antiphonref07Command.dec e0)).isSome = true }
  | _, _ => none

set_option maxHeartbeats 1000000 in
theorem gRef07Sources.ok : SpecOk Tryd.prog 44 gRef07Sources.S := by
  intro l M out h
  unfold gRef07Sources.S at h
  split at h
  · rename_i e0
    cases h
    refine callOk_of fun ho => ?_
    obtain ⟨ox0, hs⟩ := ho
    generalize (Antiphonref07Command.dec e0) = x0 at *
    obtain ⟨r, hr⟩ := Option.isSome_iff_exists.1 hs
    simp only [hr, Option.getD_some]
    have q := call_frame (M := M) [] (gRef07Sources.can x0 r hr) (by simp) rfl (by intro k i hk; simp at hk)
    exact callOk_conv q trivial (by simp; exact ox0) (by simp [frameOut, gRef07Sources.out]) (by simp [frameOut, gRef07Sources.out])
  · cases h

@[simp] def gRef07Check.out (_x0 : Antiphonref07Command) (r : Int) : Out := { av := .lit (.int .i64 r), M := none }
def gRef07Check.fin (x0 : Antiphonref07Command) (r : Int) (σ : St) : Prop := finK (gRef07Check.out x0 r) [] σ.M (resA Tryd.ty σ.A σ.M Tryd.f16.results.toList)
set_option maxHeartbeats 4000000 in
set_option maxRecDepth 100000 in
theorem gRef07Check.can (x0 : Antiphonref07Command) (r : Int) (hr : gRef07Check x0 = some r) : CallOk Tryd.prog 16 [.agg [.lit (.int .i64 x0.fKind), .lit (.string x0.fRoom), .lit (.string x0.fName), .lit (.int .i64 x0.fPeer), .lit (.int .i64 x0.fOf), .lit (.int .i64 x0.fTrack), .lit (.int .i64 x0.fLayer), .lit (.bool x0.fOn), .lit (.bool x0.fVideo), .sl (x0.fSsrcs.map (eNum .u32)) .no]] [] (gRef07Check.out x0 r) := by
  unfold gRef07Check at hr
  have hΓ := (gamL_cons gRef06Good.ok (gamL_cons gRef07Good.ok (gamL_cons gRef07Of.ok (gamL_cons gRef07Peer.ok (gamL_cons gRef07Sources.ok (gamL_cons gRef07Track.ok (gamL_nil)))))) : GamOk Tryd.prog _)
  refine call_of_awp Tryd.tyOk Tryd.func16 rfl (by kernel_rfl) rfl rfl (by simp) ?_
  intro _ _ _
  refine AWp.then ⟨[⟨1, none, .ptr 0 0⟩], [.blk x0.enc]⟩ (AWp.reg Tryd.tyOk hΓ (keep := [1]) (dead := [0]) (by kernel_rfl) rfl (by simp)) ?_
  refine AWp.then ⟨[⟨3, none, .lit (.int .i64 x0.fKind)⟩, ⟨1, none, .ptr 0 0⟩], [.blk x0.enc]⟩ (AWp.reg Tryd.tyOk hΓ (keep := [3]) (dead := []) (by kernel_rfl) rfl (by simp)) ?_
  refine AWp.seq ?_
  refine AWp.then ⟨[⟨11, none, .lit (.bool (pickB (ltI x0.fKind 1) true (ltI 8 x0.fKind)))⟩, ⟨3, none, .lit (.int .i64 x0.fKind)⟩, ⟨1, none, .ptr 0 0⟩], [.blk x0.enc]⟩ (AWp.reg Tryd.tyOk hΓ (keep := [11]) (dead := []) (by kernel_rfl) rfl (by simp)) ?_
  refine AWp.cond (b := (pickB (ltI x0.fKind 1) true (ltI 8 x0.fKind))) (by simp) (fun h15 => ?_) (fun h15 => ?_)
  · have hr := cond_t h15 hr
    refine AWp.then ⟨[⟨2, none, .lit (.int .i64 3)⟩], [.blk x0.enc]⟩ (AWp.reg Tryd.tyOk hΓ (keep := [2]) (dead := [11, 3, 1]) (by kernel_rfl) rfl (by simp [h15])) ?_
    refine AWp.ret ?_
    obtain rfl := some_inj hr
    refine fin_ret ?_
    simp
  · have hr := cond_f h15 hr
    refine AWp.skip ?_
    refine AWp.seq ?_
    obtain ⟨h16, hr⟩ := need_some hr
    obtain ⟨h17, hr⟩ := need_some hr
    obtain ⟨h18, hr⟩ := need_some hr
    refine AWp.then ⟨[⟨53, none, .lit (.bool (pickB (pickB (pickB (pickB (neI x0.fKind 1) (pickB (neS x0.fRoom ⟨#[]⟩) true (neS x0.fName ⟨#[]⟩)) false) true (pickB (notB ((gRef07Peer x0.fKind).getD dflt)) (neI x0.fPeer 0) false)) true (pickB (notB ((gRef07Of x0.fKind).getD dflt)) (neI x0.fOf 0) false)) true (pickB (notB ((gRef07Track x0.fKind).getD dflt)) (neI x0.fTrack 0) false)))⟩, ⟨3, none, .lit (.int .i64 x0.fKind)⟩, ⟨1, none, .ptr 0 0⟩], [.blk x0.enc]⟩ (AWp.reg Tryd.tyOk hΓ (keep := [53]) (dead := [11]) (by kernel_rfl) rfl (by simp [h15, h16, h17, h18])) ?_
    refine AWp.cond (b := (pickB (pickB (pickB (pickB (neI x0.fKind 1) (pickB (neS x0.fRoom ⟨#[]⟩) true (neS x0.fName ⟨#[]⟩)) false) true (pickB (notB ((gRef07Peer x0.fKind).getD dflt)) (neI x0.fPeer 0) false)) true (pickB (notB ((gRef07Of x0.fKind).getD dflt)) (neI x0.fOf 0) false)) true (pickB (notB ((gRef07Track x0.fKind).getD dflt)) (neI x0.fTrack 0) false))) (by simp) (fun h19 => ?_) (fun h19 => ?_)
    · have hr := cond_t h19 hr
      refine AWp.then ⟨[⟨2, none, .lit (.int .i64 2)⟩], [.blk x0.enc]⟩ (AWp.reg Tryd.tyOk hΓ (keep := [2]) (dead := [53, 3, 1]) (by kernel_rfl) rfl (by simp [h19])) ?_
      refine AWp.ret ?_
      obtain rfl := some_inj hr
      refine fin_ret ?_
      simp
    · have hr := cond_f h19 hr
      refine AWp.skip ?_
      refine AWp.seq ?_
      refine AWp.then ⟨[⟨86, none, .lit (.bool (pickB (pickB (pickB (neI x0.fKind 5) (neI x0.fLayer 0) false) true (pickB (pickB (neI x0.fKind 7) (neI x0.fKind 8) false) x0.fOn false)) true (pickB (neI x0.fKind 3) (pickB x0.fVideo true (ltI 0 (lenL x0.fSsrcs))) false)))⟩, ⟨3, none, .lit (.int .i64 x0.fKind)⟩, ⟨1, none, .ptr 0 0⟩], [.blk x0.enc]⟩ (AWp.reg Tryd.tyOk hΓ (keep := [86]) (dead := [53]) (by kernel_rfl) rfl (by simp [h19])) ?_
      refine AWp.cond (b := (pickB (pickB (pickB (neI x0.fKind 5) (neI x0.fLayer 0) false) true (pickB (pickB (neI x0.fKind 7) (neI x0.fKind 8) false) x0.fOn false)) true (pickB (neI x0.fKind 3) (pickB x0.fVideo true (ltI 0 (lenL x0.fSsrcs))) false))) (by simp) (fun h20 => ?_) (fun h20 => ?_)
      · have hr := cond_t h20 hr
        refine AWp.then ⟨[⟨2, none, .lit (.int .i64 2)⟩], [.blk x0.enc]⟩ (AWp.reg Tryd.tyOk hΓ (keep := [2]) (dead := [86, 3, 1]) (by kernel_rfl) rfl (by simp [h20])) ?_
        refine AWp.ret ?_
        obtain rfl := some_inj hr
        refine fin_ret ?_
        simp
      · have hr := cond_f h20 hr
        refine AWp.skip ?_
        refine AWp.seq ?_
        obtain ⟨r1, h21, hr⟩ := bind_some' hr
        obtain ⟨h22, hr⟩ := need_some hr
        refine AWp.then ⟨[⟨116, none, .lit (.bool (pickB (pickB (pickB (pickB (pickB (notB r1) true (notB ((gRef07Good x0.fOf).getD dflt))) true (ltI x0.fTrack 0)) true (ltI 3 x0.fTrack)) true (ltI x0.fLayer 0)) true (ltI 2 x0.fLayer)))⟩, ⟨3, none, .lit (.int .i64 x0.fKind)⟩, ⟨1, none, .ptr 0 0⟩], [.blk x0.enc]⟩ (AWp.reg Tryd.tyOk hΓ (keep := [116]) (dead := [86]) (by kernel_rfl) rfl (by simp [h20, h21, h22])) ?_
        refine AWp.cond (b := (pickB (pickB (pickB (pickB (pickB (notB r1) true (notB ((gRef07Good x0.fOf).getD dflt))) true (ltI x0.fTrack 0)) true (ltI 3 x0.fTrack)) true (ltI x0.fLayer 0)) true (ltI 2 x0.fLayer))) (by simp) (fun h23 => ?_) (fun h23 => ?_)
        · have hr := cond_t h23 hr
          refine AWp.then ⟨[⟨2, none, .lit (.int .i64 5)⟩], [.blk x0.enc]⟩ (AWp.reg Tryd.tyOk hΓ (keep := [2]) (dead := [116, 3, 1]) (by kernel_rfl) rfl (by simp [h23])) ?_
          refine AWp.ret ?_
          obtain rfl := some_inj hr
          refine fin_ret ?_
          simp
        · have hr := cond_f h23 hr
          refine AWp.skip ?_
          refine AWp.seq ?_
          obtain ⟨h24, hr⟩ := need_some hr
          obtain ⟨h25, hr⟩ := need_some hr
          refine AWp.then ⟨[⟨130, none, .lit (.bool (pickB (eqI x0.fKind 1) (pickB (notB ((gRef06Good x0.fRoom).getD dflt)) true (notB ((gRef06Good x0.fName).getD dflt))) false))⟩, ⟨3, none, .lit (.int .i64 x0.fKind)⟩, ⟨1, none, .ptr 0 0⟩], [.blk x0.enc]⟩ (AWp.reg Tryd.tyOk hΓ (keep := [130]) (dead := [116]) (by kernel_rfl) rfl (by simp [h23, h24, h25])) ?_
          refine AWp.cond (b := (pickB (eqI x0.fKind 1) (pickB (notB ((gRef06Good x0.fRoom).getD dflt)) true (notB ((gRef06Good x0.fName).getD dflt))) false)) (by simp) (fun h26 => ?_) (fun h26 => ?_)
          · have hr := cond_t h26 hr
            refine AWp.then ⟨[⟨2, none, .lit (.int .i64 6)⟩], [.blk x0.enc]⟩ (AWp.reg Tryd.tyOk hΓ (keep := [2]) (dead := [130, 3, 1]) (by kernel_rfl) rfl (by simp [h26])) ?_
            refine AWp.ret ?_
            obtain rfl := some_inj hr
            refine fin_ret ?_
            simp
          · have hr := cond_f h26 hr
            refine AWp.skip ?_
            refine AWp.seq ?_
            refine AWp.then ⟨[⟨132, none, .lit (.bool (eqI x0.fKind 3))⟩, ⟨1, none, .ptr 0 0⟩], [.blk x0.enc]⟩ (AWp.reg Tryd.tyOk hΓ (keep := [132]) (dead := [130, 3]) (by kernel_rfl) rfl (by simp [h26])) ?_
            refine AWp.cond (b := (eqI x0.fKind 3)) (by simp) (fun h27 => ?_) (fun h27 => ?_)
            · have hr := cond_t h27 hr
              obtain ⟨r2, h28, hr⟩ := bind_some' hr
              refine AWp.then ⟨[⟨2, none, .lit (.int .i64 r2)⟩], [.blk x0.enc]⟩ (AWp.reg Tryd.tyOk hΓ (keep := [2]) (dead := [132, 1]) (by kernel_rfl) rfl (by simp [h27, h28])) ?_
              refine AWp.ret ?_
              obtain rfl := some_inj hr
              refine fin_ret ?_
              simp
            · have hr := cond_f h27 hr
              refine AWp.skip ?_
              refine AWp.then ⟨[⟨2, none, .lit (.int .i64 0)⟩], [.blk x0.enc]⟩ (AWp.reg Tryd.tyOk hΓ (keep := [2]) (dead := [132, 1]) (by kernel_rfl) rfl (by simp [h27])) ?_
              refine AWp.ret ?_
              obtain rfl := some_inj hr
              refine fin_ret ?_
              simp

@[simp] noncomputable def gRef07Check.S : Sp
  | [.agg e0], _ => some { av := .lit (.int .i64 ((gRef07Check (Antiphonref07Command.dec e0)).getD dflt)), M := none, obl := WeakL e0 (Antiphonref07Command.enc (Antiphonref07Command.dec e0)) ∧ (gRef07Check (Antiphonref07Command.dec e0)).isSome = true }
  | _, _ => none

set_option maxHeartbeats 1000000 in
theorem gRef07Check.ok : SpecOk Tryd.prog 16 gRef07Check.S := by
  intro l M out h
  unfold gRef07Check.S at h
  split at h
  · rename_i e0
    cases h
    refine callOk_of fun ho => ?_
    obtain ⟨ox0, hs⟩ := ho
    generalize (Antiphonref07Command.dec e0) = x0 at *
    obtain ⟨r, hr⟩ := Option.isSome_iff_exists.1 hs
    simp only [hr, Option.getD_some]
    have q := call_frame (M := M) [] (gRef07Check.can x0 r hr) (by simp) rfl (by intro k i hk; simp at hk)
    exact callOk_conv q trivial (by simp; exact ox0) (by simp [frameOut, gRef07Check.out]) (by simp [frameOut, gRef07Check.out])
  · cases h

@[simp] def gRef07Bit.out (_x0 : Bool) (r : ByteArray) : Out := { av := .lit (.string r), M := none }
def gRef07Bit.fin (x0 : Bool) (r : ByteArray) (σ : St) : Prop := finK (gRef07Bit.out x0 r) [] σ.M (resA Tryd.ty σ.A σ.M Tryd.f46.results.toList)
set_option maxHeartbeats 4000000 in
set_option maxRecDepth 100000 in
theorem gRef07Bit.can (x0 : Bool) (r : ByteArray) (hr : gRef07Bit x0 = some r) : CallOk Tryd.prog 46 [.lit (.bool x0)] [] (gRef07Bit.out x0 r) := by
  unfold gRef07Bit at hr
  have hΓ := gamL_nil (P := Tryd.prog)
  refine call_of_awp Tryd.tyOk Tryd.func46 rfl (by kernel_rfl) rfl rfl (by simp) ?_
  intro _ _ _
  refine AWp.then ⟨[⟨0, none, .lit (.bool x0)⟩], []⟩ (AWp.reg Tryd.tyOk hΓ (keep := []) (dead := []) (by kernel_rfl) rfl (by simp)) ?_
  refine AWp.seq ?_
  refine AWp.then ⟨[⟨3, none, .lit (.bool x0)⟩], []⟩ (AWp.reg Tryd.tyOk hΓ (keep := [3]) (dead := [0]) (by kernel_rfl) rfl (by simp)) ?_
  refine AWp.cond (b := x0) (by simp) (fun h2 => ?_) (fun h2 => ?_)
  · have hr := cond_t h2 hr
    refine AWp.then ⟨[⟨2, none, .lit (.string ⟨#[1]⟩)⟩], []⟩ (AWp.reg Tryd.tyOk hΓ (keep := [2]) (dead := [3]) (by kernel_rfl) rfl (by simp [h2])) ?_
    refine AWp.ret ?_
    obtain rfl := some_inj hr
    refine fin_ret ?_
    simp
  · have hr := cond_f h2 hr
    refine AWp.skip ?_
    refine AWp.then ⟨[⟨2, none, .lit (.string ⟨#[0]⟩)⟩], []⟩ (AWp.reg Tryd.tyOk hΓ (keep := [2]) (dead := [3]) (by kernel_rfl) rfl (by simp [h2])) ?_
    refine AWp.ret ?_
    obtain rfl := some_inj hr
    refine fin_ret ?_
    simp

@[simp] noncomputable def gRef07Bit.S : Sp
  | [.lit (.bool x0)], _ => some { av := .lit (.string ((gRef07Bit x0).getD dflt)), M := none, obl := (gRef07Bit x0).isSome = true }
  | _, _ => none

set_option maxHeartbeats 1000000 in
theorem gRef07Bit.ok : SpecOk Tryd.prog 46 gRef07Bit.S := by
  intro l M out h
  unfold gRef07Bit.S at h
  split at h
  · rename_i x0
    cases h
    refine callOk_of fun ho => ?_
    have hs := ho
    obtain ⟨r, hr⟩ := Option.isSome_iff_exists.1 hs
    simp only [hr, Option.getD_some]
    have q := call_frame (M := M) [] (gRef07Bit.can x0 r hr) (by simp) rfl (by intro k i hk; simp at hk)
    exact callOk_conv q trivial (by simp) (by simp [frameOut, gRef07Bit.out]) (by simp [frameOut, gRef07Bit.out])
  · cases h

@[simp] def gRef07Text.out (_x0 : Antiphonref07Command) (r : ByteArray) : Out := { av := .lit (.string r), M := none }
def gRef07Text.fin (x0 : Antiphonref07Command) (r : ByteArray) (σ : St) : Prop := finK (gRef07Text.out x0 r) [] σ.M (resA Tryd.ty σ.A σ.M Tryd.f18.results.toList)
set_option maxHeartbeats 4000000 in
set_option maxRecDepth 100000 in
theorem gRef07Text.can (x0 : Antiphonref07Command) (r : ByteArray) (hr : gRef07Text x0 = some r) : CallOk Tryd.prog 18 [.agg [.lit (.int .i64 x0.fKind), .lit (.string x0.fRoom), .lit (.string x0.fName), .lit (.int .i64 x0.fPeer), .lit (.int .i64 x0.fOf), .lit (.int .i64 x0.fTrack), .lit (.int .i64 x0.fLayer), .lit (.bool x0.fOn), .lit (.bool x0.fVideo), .sl (x0.fSsrcs.map (eNum .u32)) .no]] [] (gRef07Text.out x0 r) := by
  unfold gRef07Text at hr
  have hΓ := (gamL_cons gRef02Num.ok (gamL_cons gRef07Bit.ok (gamL_cons gRef07Of.ok (gamL_cons gRef07Track.ok (gamL_nil)))) : GamOk Tryd.prog _)
  refine call_of_awp Tryd.tyOk Tryd.func18 rfl (by kernel_rfl) rfl rfl (by simp) ?_
  intro _ _ _
  refine AWp.then ⟨[⟨1, none, .ptr 0 0⟩], [.blk x0.enc]⟩ (AWp.reg Tryd.tyOk hΓ (keep := [1]) (dead := [0]) (by kernel_rfl) rfl (by simp)) ?_
  refine AWp.then ⟨[⟨3, none, .lit (.int .i64 x0.fKind)⟩, ⟨1, none, .ptr 0 0⟩], [.blk x0.enc]⟩ (AWp.reg Tryd.tyOk hΓ (keep := [3]) (dead := []) (by kernel_rfl) rfl (by simp)) ?_
  obtain ⟨r1, h34, hr⟩ := bind_some' hr
  refine AWp.then ⟨[⟨4, none, .lit (.string r1)⟩, ⟨3, none, .lit (.int .i64 x0.fKind)⟩, ⟨1, none, .ptr 0 0⟩], [.blk x0.enc]⟩ (AWp.reg Tryd.tyOk hΓ (keep := [4]) (dead := []) (by kernel_rfl) rfl (by simp [h34])) ?_
  refine AWp.seq ?_
  refine AWp.then ⟨[⟨13, none, .lit (.bool (eqI x0.fKind 1))⟩, ⟨4, none, .lit (.string r1)⟩, ⟨3, none, .lit (.int .i64 x0.fKind)⟩, ⟨1, none, .ptr 0 0⟩], [.blk x0.enc]⟩ (AWp.reg Tryd.tyOk hΓ (keep := [13]) (dead := []) (by kernel_rfl) rfl (by simp)) ?_
  refine AWp.cond (b := (eqI x0.fKind 1)) (by simp) (fun h35 => ?_) (fun h35 => ?_)
  · have hr := cond_t h35 hr
    obtain ⟨r2, h36, hr⟩ := bind_some' hr
    obtain ⟨h37, hr⟩ := need_some hr
    obtain ⟨h38, hr⟩ := need_some hr
    obtain ⟨r3, h39, hr⟩ := bind_some' hr
    obtain ⟨h40, hr⟩ := need_some hr
    obtain ⟨h41, hr⟩ := need_some hr
    refine AWp.then ⟨[⟨2, none, .lit (.string (catS (catS (catS (catS r1 r2) x0.fRoom) r3) x0.fName))⟩], [.blk x0.enc]⟩ (AWp.regD Tryd.mixed Tryd.tyOk hΓ (keep := [2]) (dead := [13, 4, 3, 1]) [] [(false, []), (false, []), (false, []), (false, []), (false, []), (false, []), (false, []), (false, []), (false, []), (false, []), (false, []), (false, []), (false, []), (false, []), (false, []), (false, []), (false, []), (false, []), (false, []), (false, [])] (by kernel_rfl) rfl (by simp [h35, h36, h37, h38, h39, h40, h41])) ?_
    refine AWp.ret ?_
    obtain rfl := some_inj hr
    refine fin_ret ?_
    simp
  · have hr := cond_f h35 hr
    refine AWp.skip ?_
    obtain ⟨r4, h42, hr⟩ := bind_some' hr
    obtain ⟨h43, hr⟩ := need_some hr
    refine AWp.then ⟨[⟨4, none, .lit (.string (catS r1 r4))⟩, ⟨3, none, .lit (.int .i64 x0.fKind)⟩, ⟨1, none, .ptr 0 0⟩], [.blk x0.enc]⟩ (AWp.reg Tryd.tyOk hΓ (keep := [4]) (dead := [13]) (by kernel_rfl) rfl (by simp [h35, h42, h43])) ?_
    refine AWp.meetF (fun (v1 : ByteArray) (γ1 : Unit) => ⟨[⟨4, none, .lit (.string v1)⟩, ⟨3, none, .lit (.int .i64 x0.fKind)⟩, ⟨1, none, .ptr 0 0⟩], [.blk x0.enc]⟩) (gRef07Text.fin x0) hr (fun f hr => ?_) (fun v1 γ1 hr => ?_) (fun _ h => h)
    · obtain ⟨r5, h44, hr⟩ := bind_some' hr
      refine AWp.then ⟨[⟨40, none, .lit (.bool r5)⟩, ⟨4, none, .lit (.string (catS r1 r4))⟩, ⟨3, none, .lit (.int .i64 x0.fKind)⟩, ⟨1, none, .ptr 0 0⟩], [.blk x0.enc]⟩ (AWp.reg Tryd.tyOk hΓ (keep := [40]) (dead := []) (by kernel_rfl) rfl (by simp [h44])) ?_
      refine AWp.cond (b := r5) (by simp) (fun h45 => ?_) (fun h45 => ?_)
      · have hr := cond_t h45 hr
        obtain ⟨r6, h46, hr⟩ := bind_some' hr
        obtain ⟨h47, hr⟩ := need_some hr
        refine AWp.last ⟨[⟨4, none, .lit (.string (catS (catS r1 r4) r6))⟩, ⟨3, none, .lit (.int .i64 x0.fKind)⟩, ⟨1, none, .ptr 0 0⟩], [.blk x0.enc]⟩ (AWp.reg Tryd.tyOk hΓ (keep := [4]) (dead := [40]) (by kernel_rfl) rfl (by simp [h45, h46, h47])) ?_
        obtain rfl := some_inj hr
        exact meet_go () 1 (by first | (simp; done) | simp [h34, h35, h42, h43, h44, h45, h46, h47])
      · have hr := cond_f h45 hr
        refine AWp.skip ?_
        obtain rfl := some_inj hr
        exact meet_go () 1 (by first | (simp; done) | simp [h34, h35, h42, h43, h44, h45])
    · refine AWp.meetF (fun (v2 : ByteArray) (γ2 : Unit) => ⟨[⟨4, none, .lit (.string v2)⟩, ⟨3, none, .lit (.int .i64 x0.fKind)⟩, ⟨1, none, .ptr 0 0⟩], [.blk x0.enc]⟩) (gRef07Text.fin x0) hr (fun f hr => ?_) (fun v2 γ2 hr => ?_) (fun _ h => h)
      · obtain ⟨r7, h48, hr⟩ := bind_some' hr
        refine AWp.then ⟨[⟨48, none, .lit (.bool r7)⟩, ⟨4, none, .lit (.string v1)⟩, ⟨3, none, .lit (.int .i64 x0.fKind)⟩, ⟨1, none, .ptr 0 0⟩], [.blk x0.enc]⟩ (AWp.reg Tryd.tyOk hΓ (keep := [48]) (dead := []) (by kernel_rfl) rfl (by simp [h48])) ?_
        refine AWp.cond (b := r7) (by simp) (fun h49 => ?_) (fun h49 => ?_)
        · have hr := cond_t h49 hr
          obtain ⟨r8, h50, hr⟩ := bind_some' hr
          obtain ⟨h51, hr⟩ := need_some hr
          refine AWp.last ⟨[⟨4, none, .lit (.string (catS v1 r8))⟩, ⟨3, none, .lit (.int .i64 x0.fKind)⟩, ⟨1, none, .ptr 0 0⟩], [.blk x0.enc]⟩ (AWp.reg Tryd.tyOk hΓ (keep := [4]) (dead := [48]) (by kernel_rfl) rfl (by simp [h49, h50, h51])) ?_
          obtain rfl := some_inj hr
          exact meet_go () 1 (by first | (simp; done) | simp [h34, h35, h42, h43, h48, h49, h50, h51])
        · have hr := cond_f h49 hr
          refine AWp.skip ?_
          obtain rfl := some_inj hr
          exact meet_go () 1 (by first | (simp; done) | simp [h34, h35, h42, h43, h48, h49])
      · refine AWp.meetF (fun (v3 : ByteArray) (γ3 : Unit) => ⟨[⟨4, none, .lit (.string v3)⟩, ⟨3, none, .lit (.int .i64 x0.fKind)⟩, ⟨1, none, .ptr 0 0⟩], [.blk x0.enc]⟩) (gRef07Text.fin x0) hr (fun f hr => ?_) (fun v3 γ3 hr => ?_) (fun _ h => h)
        · refine AWp.then ⟨[⟨56, none, .lit (.bool (eqI x0.fKind 5))⟩, ⟨4, none, .lit (.string v2)⟩, ⟨3, none, .lit (.int .i64 x0.fKind)⟩, ⟨1, none, .ptr 0 0⟩], [.blk x0.enc]⟩ (AWp.reg Tryd.tyOk hΓ (keep := [56]) (dead := []) (by kernel_rfl) rfl (by simp)) ?_
          refine AWp.cond (b := (eqI x0.fKind 5)) (by simp) (fun h52 => ?_) (fun h52 => ?_)
          · have hr := cond_t h52 hr
            obtain ⟨r9, h53, hr⟩ := bind_some' hr
            obtain ⟨h54, hr⟩ := need_some hr
            refine AWp.last ⟨[⟨4, none, .lit (.string (catS v2 r9))⟩, ⟨3, none, .lit (.int .i64 x0.fKind)⟩, ⟨1, none, .ptr 0 0⟩], [.blk x0.enc]⟩ (AWp.reg Tryd.tyOk hΓ (keep := [4]) (dead := [56]) (by kernel_rfl) rfl (by simp [h52, h53, h54])) ?_
            obtain rfl := some_inj hr
            exact meet_go () 1 (by first | (simp; done) | simp [h34, h35, h42, h43, h52, h53, h54])
          · have hr := cond_f h52 hr
            refine AWp.skip ?_
            obtain rfl := some_inj hr
            exact meet_go () 1 (by first | (simp; done) | simp [h34, h35, h42, h43, h52])
        · refine AWp.meetF (fun (v4 : ByteArray) (γ4 : Unit) => ⟨[⟨4, none, .lit (.string v4)⟩, ⟨3, none, .lit (.int .i64 x0.fKind)⟩, ⟨1, none, .ptr 0 0⟩], [.blk x0.enc]⟩) (gRef07Text.fin x0) hr (fun f hr => ?_) (fun v4 γ4 hr => ?_) (fun _ h => h)
          · refine AWp.then ⟨[⟨64, none, .lit (.bool (leqI 7 x0.fKind))⟩, ⟨4, none, .lit (.string v3)⟩, ⟨3, none, .lit (.int .i64 x0.fKind)⟩, ⟨1, none, .ptr 0 0⟩], [.blk x0.enc]⟩ (AWp.reg Tryd.tyOk hΓ (keep := [64]) (dead := []) (by kernel_rfl) rfl (by simp)) ?_
            refine AWp.cond (b := (leqI 7 x0.fKind)) (by simp) (fun h55 => ?_) (fun h55 => ?_)
            · have hr := cond_t h55 hr
              obtain ⟨r10, h56, hr⟩ := bind_some' hr
              obtain ⟨h57, hr⟩ := need_some hr
              refine AWp.last ⟨[⟨4, none, .lit (.string (catS v3 r10))⟩, ⟨3, none, .lit (.int .i64 x0.fKind)⟩, ⟨1, none, .ptr 0 0⟩], [.blk x0.enc]⟩ (AWp.reg Tryd.tyOk hΓ (keep := [4]) (dead := [64]) (by kernel_rfl) rfl (by simp [h55, h56, h57])) ?_
              obtain rfl := some_inj hr
              exact meet_go () 1 (by first | (simp; done) | simp [h34, h35, h42, h43, h55, h56, h57])
            · have hr := cond_f h55 hr
              refine AWp.skip ?_
              obtain rfl := some_inj hr
              exact meet_go () 1 (by first | (simp; done) | simp [h34, h35, h42, h43, h55])
          · refine AWp.meetF (fun (v5 : ByteArray) (γ5 : Unit) => ⟨[⟨4, none, .lit (.string v5)⟩], [.blk x0.enc]⟩) (gRef07Text.fin x0) hr (fun f hr => ?_) (fun v5 γ5 hr => ?_) (fun _ h => h)
            · refine AWp.then ⟨[⟨71, none, .lit (.bool (eqI x0.fKind 3))⟩, ⟨4, none, .lit (.string v4)⟩, ⟨1, none, .ptr 0 0⟩], [.blk x0.enc]⟩ (AWp.reg Tryd.tyOk hΓ (keep := [71]) (dead := [3]) (by kernel_rfl) rfl (by simp)) ?_
              refine AWp.cond (b := (eqI x0.fKind 3)) (by simp) (fun h58 => ?_) (fun h58 => ?_)
              · have hr := cond_t h58 hr
                obtain ⟨r11, h59, hr⟩ := bind_some' hr
                obtain ⟨r12, h60, hr⟩ := bind_some' hr
                obtain ⟨h61, hr⟩ := need_some hr
                obtain ⟨h62, hr⟩ := need_some hr
                refine AWp.then ⟨[⟨4, none, .lit (.string (catS v4 (catS r11 r12)))⟩, ⟨1, none, .ptr 0 0⟩], [.blk x0.enc]⟩ (AWp.regD Tryd.mixed Tryd.tyOk hΓ (keep := [4]) (dead := [71]) [] [(false, []), (false, []), (false, []), (false, []), (false, []), (false, []), (false, []), (false, []), (false, []), (false, []), (false, []), (false, [])] (by kernel_rfl) rfl (by simp [h58, h59, h60, h61, h62])) ?_
                refine AWp.then ⟨[⟨84, none, .sl (x0.fSsrcs.map (eNum .u32)) .no⟩, ⟨85, none, .lit (.int .i64 (lenL x0.fSsrcs))⟩, ⟨86, none, .lit (.int .i64 0)⟩, ⟨4, none, .lit (.string (catS v4 (catS r11 r12)))⟩], [.blk x0.enc]⟩ (AWp.reg Tryd.tyOk hΓ (keep := [84, 85, 86]) (dead := [1]) (by kernel_rfl) rfl (by simp)) ?_
                refine AWp.loopE (fun (s6 : Int × ByteArray) (γ6 : Unit) => ⟨[⟨84, none, .sl (x0.fSsrcs.map (eNum .u32)) .no⟩, ⟨85, none, .lit (.int .i64 (lenL x0.fSsrcs))⟩, ⟨86, none, .lit (.int .i64 s6.1)⟩, ⟨4, none, .lit (.string s6.2)⟩], [.blk x0.enc]⟩) (fun (v6 : ByteArray) (γ6a : Unit) => ⟨[⟨4, none, .lit (.string v6)⟩], [.blk x0.enc]⟩) (QRm (gRef07Text.fin x0)) hr () 1 (by simp) (fun s6 f γ6 hr => ?_) (fun v6 γ6a σ1 m1 hr hc => ?_) (fun _ h => QRm_ret h)
                · unfold gRef07Text.loop6 at hr
                  refine AWp.then ⟨[⟨87, none, .lit (.bool (ltI s6.1 (lenL x0.fSsrcs)))⟩, ⟨84, none, .sl (x0.fSsrcs.map (eNum .u32)) .no⟩, ⟨85, none, .lit (.int .i64 (lenL x0.fSsrcs))⟩, ⟨86, none, .lit (.int .i64 s6.1)⟩, ⟨4, none, .lit (.string s6.2)⟩], [.blk x0.enc]⟩ (AWp.reg Tryd.tyOk hΓ (keep := [87]) (dead := []) (by kernel_rfl) rfl (by simp)) ?_
                  refine AWp.seq ?_
                  refine AWp.cond (b := (ltI s6.1 (lenL x0.fSsrcs))) (by simp) (fun h63 => ?_) (fun h63 => ?_)
                  · have hr := cond_t h63 hr
                    refine AWp.skip ?_
                    refine AWp.seq ?_
                    refine AWp.block ?_
                    obtain ⟨h64, hr⟩ := need_some hr
                    refine AWp.then ⟨[⟨6, none, .lit (.int .u32 (nthI x0.fSsrcs s6.1))⟩, ⟨84, none, .sl (x0.fSsrcs.map (eNum .u32)) .no⟩, ⟨85, none, .lit (.int .i64 (lenL x0.fSsrcs))⟩, ⟨86, none, .lit (.int .i64 s6.1)⟩, ⟨4, none, .lit (.string s6.2)⟩], [.blk x0.enc]⟩ (AWp.reg Tryd.tyOk hΓ (keep := [6]) (dead := [87]) (by kernel_rfl) rfl (by simp [h63, h64])) ?_
                    obtain ⟨r13, h65, hr⟩ := bind_some' hr
                    obtain ⟨h66, hr⟩ := need_some hr
                    refine AWp.last ⟨[⟨4, none, .lit (.string (catS s6.2 r13))⟩, ⟨84, none, .sl (x0.fSsrcs.map (eNum .u32)) .no⟩, ⟨85, none, .lit (.int .i64 (lenL x0.fSsrcs))⟩, ⟨86, none, .lit (.int .i64 s6.1)⟩], [.blk x0.enc]⟩ (AWp.reg Tryd.tyOk hΓ (keep := [4]) (dead := [6]) (by kernel_rfl) rfl (by simp [h65, h66])) ?_
                    refine AWp.last ⟨[⟨86, none, .lit (.int .i64 (addI .i64 s6.1 1))⟩, ⟨4, none, .lit (.string (catS s6.2 r13))⟩, ⟨84, none, .sl (x0.fSsrcs.map (eNum .u32)) .no⟩, ⟨85, none, .lit (.int .i64 (lenL x0.fSsrcs))⟩], [.blk x0.enc]⟩ (AWp.reg Tryd.tyOk hΓ (keep := [86]) (dead := []) (by kernel_rfl) rfl (by simp)) ?_
                    obtain rfl := some_inj hr
                    exact round_go () 1 (by first | (simp; done) | simp [h34, h35, h42, h43, h58, h59, h60, h61, h62, h63, h64, h65, h66])
                  · have hr := cond_f h63 hr
                    refine AWp.exit ?_
                    obtain rfl := some_inj hr
                    exact round_out () 1 (by first | (simp; done) | simp [h34, h35, h42, h43, h58, h59, h60, h61, h62, h63])
                · obtain rfl := some_inj hr
                  exact meet_go () 1 (Conv.trans hc (by first | (simp; done) | simp [h34, h35, h42, h43, h58, h59, h60, h61, h62]))
              · have hr := cond_f h58 hr
                refine AWp.skip ?_
                obtain rfl := some_inj hr
                exact meet_go () 1 (by first | (simp; done) | simp [h34, h35, h42, h43, h58])
            · refine AWp.then ⟨[⟨2, none, .lit (.string v5)⟩], [.blk x0.enc]⟩ (AWp.reg Tryd.tyOk hΓ (keep := [2]) (dead := [4]) (by kernel_rfl) rfl (by simp)) ?_
              refine AWp.ret ?_
              obtain rfl := some_inj hr
              refine fin_ret ?_
              simp

@[simp] noncomputable def gRef07Text.S : Sp
  | [.agg e0], _ => some { av := .lit (.string ((gRef07Text (Antiphonref07Command.dec e0)).getD dflt)), M := none, obl := WeakL e0 (Antiphonref07Command.enc (Antiphonref07Command.dec e0)) ∧ (gRef07Text (Antiphonref07Command.dec e0)).isSome = true }
  | _, _ => none

set_option maxHeartbeats 1000000 in
theorem gRef07Text.ok : SpecOk Tryd.prog 18 gRef07Text.S := by
  intro l M out h
  unfold gRef07Text.S at h
  split at h
  · rename_i e0
    cases h
    refine callOk_of fun ho => ?_
    obtain ⟨ox0, hs⟩ := ho
    generalize (Antiphonref07Command.dec e0) = x0 at *
    obtain ⟨r, hr⟩ := Option.isSome_iff_exists.1 hs
    simp only [hr, Option.getD_some]
    have q := call_frame (M := M) [] (gRef07Text.can x0 r hr) (by simp) rfl (by intro k i hk; simp at hk)
    exact callOk_conv q trivial (by simp; exact ox0) (by simp [frameOut, gRef07Text.out]) (by simp [frameOut, gRef07Text.out])
  · cases h
end Go.Proofs

/- That these functions compute what their plain functions do. No condition. -/
import Derived.Test.YtijaigjfacfhnaaDoorM06
import Derived.Test.YtijaigjfacfhnaaDoorTy
import Derived.Test.YtijaigjfacfhnaaDoorM02
import Derived.Test.YtijaigjfacfhnaaDoorCa
import Derived.Test.YtijaigjfacfhnaaDoorCb
import Derived.Test.YtijaigjfacfhnaaDoorM07
namespace Go.Proofs
open Go.Ab
@[simp] def gLaw07Awake.out  (r : Bool) : Out := { av := .lit (.bool r), M := none }
def gLaw07Awake.fin  (r : Bool) (σ : St) : Prop := finK (gLaw07Awake.out  r) [] σ.M (resA Tryd.ty σ.A σ.M Tryd.f11.results.toList)
set_option maxHeartbeats 4000000 in
set_option maxRecDepth 100000 in
theorem gLaw07Awake.can  (r : Bool) (hr : gLaw07Awake = some r) : CallOk Tryd.prog 11 [] [] (gLaw07Awake.out  r) := by
  unfold gLaw07Awake at hr
  have hΓ := (gamL_cons gControlCommandCheck.ok (gamL_cons gControlCommandText.ok (gamL_cons gControlParse.ok (gamL_nil))) : GamOk Tryd.prog _)
  refine call_of_awp Tryd.tyOk Tryd.func11 rfl (by kernel_rfl) rfl rfl (by simp) ?_
  intro _ _ _
  refine AWp.then ⟨[], []⟩ (AWp.reg Tryd.tyOk hΓ (keep := []) (dead := []) (by kernel_rfl) rfl (by simp)) ?_
  obtain ⟨r1, h4, hr⟩ := bind_some' hr
  refine AWp.then ⟨[⟨1, none, .ptr 0 0⟩, ⟨2, none, .lit (.int .i64 r1.2)⟩], [.blk r1.1.enc]⟩ (AWp.reg Tryd.tyOk hΓ (keep := [1, 2]) (dead := []) (by kernel_rfl) rfl (by simp [h4])) ?_
  obtain ⟨h5, hr⟩ := need_some hr
  obtain ⟨h6, hr⟩ := need_some hr
  refine AWp.then ⟨[⟨0, none, .lit (.bool (pickB (pickB (pickB (pickB (eqI r1.2 0) (eqI r1.1.fKind 2) false) (eqI r1.1.fPeer 258) false) (eqS ((gControlCommandText r1.1).getD dflt) ⟨#[2, 1, 2]⟩) false) (eqI ((gControlCommandCheck (Antiphonref07Command.mk 0 ⟨#[]⟩ ⟨#[]⟩ 0 0 0 0 false false [])).getD dflt) 3) false))⟩], [.blk r1.1.enc]⟩ (AWp.reg Tryd.tyOk hΓ (keep := [0]) (dead := [1, 2]) (by kernel_rfl) rfl (by simp [h5, h6])) ?_
  refine AWp.ret ?_
  obtain rfl := some_inj hr
  refine fin_ret ?_
  simp

@[simp] noncomputable def gLaw07Awake.S : Sp
  | [], _ => some { av := .lit (.bool (gLaw07Awake.getD dflt)), M := none, obl := gLaw07Awake.isSome = true }
  | _, _ => none

set_option maxHeartbeats 1000000 in
theorem gLaw07Awake.ok : SpecOk Tryd.prog 11 gLaw07Awake.S := by
  intro l M out h
  unfold gLaw07Awake.S at h
  split at h
  · cases h
    refine callOk_of fun ho => ?_
    have hs := ho
    obtain ⟨r, hr⟩ := Option.isSome_iff_exists.1 hs
    simp only [hr, Option.getD_some]
    have q := call_frame (M := M) [] (gLaw07Awake.can r hr) (by simp) rfl (by intro k i hk; simp at hk)
    exact callOk_conv q trivial (by simp) (by simp [frameOut, gLaw07Awake.out]) (by simp [frameOut, gLaw07Awake.out])
  · cases h

@[simp] def gLaw07Few.out (_x0 : Antiphonref07Command) (r : Antiphonref07Command) : Out := { av := .agg [.lit (.int .i64 r.fKind), .lit (.string r.fRoom), .lit (.string r.fName), .lit (.int .i64 r.fPeer), .lit (.int .i64 r.fOf), .lit (.int .i64 r.fTrack), .lit (.int .i64 r.fLayer), .lit (.bool r.fOn), .lit (.bool r.fVideo), .sl (r.fSsrcs.map (eNum .u32)) .no], M := none }
def gLaw07Few.fin (x0 : Antiphonref07Command) (r : Antiphonref07Command) (σ : St) : Prop := finK (gLaw07Few.out x0 r) [] σ.M (resA Tryd.ty σ.A σ.M Tryd.f15.results.toList)
set_option maxHeartbeats 4000000 in
set_option maxRecDepth 100000 in
theorem gLaw07Few.can (x0 : Antiphonref07Command) (r : Antiphonref07Command) (hr : gLaw07Few x0 = some r) : CallOk Tryd.prog 15 [.agg [.lit (.int .i64 x0.fKind), .lit (.string x0.fRoom), .lit (.string x0.fName), .lit (.int .i64 x0.fPeer), .lit (.int .i64 x0.fOf), .lit (.int .i64 x0.fTrack), .lit (.int .i64 x0.fLayer), .lit (.bool x0.fOn), .lit (.bool x0.fVideo), .sl (x0.fSsrcs.map (eNum .u32)) .no]] [] (gLaw07Few.out x0 r) := by
  unfold gLaw07Few at hr
  have hΓ := (gamL_cons gLaw01Cut.ok (gamL_nil) : GamOk Tryd.prog _)
  refine call_of_awp Tryd.tyOk Tryd.func15 rfl (by kernel_rfl) rfl rfl (by simp) ?_
  intro _ _ _
  refine AWp.then ⟨[⟨1, none, .ptr 0 0⟩, ⟨2, none, .ptr 1 0⟩], [.blk x0.enc, .blk [.lit (.int .i64 0), .lit (.string ⟨#[]⟩), .lit (.string ⟨#[]⟩), .lit (.int .i64 0), .lit (.int .i64 0), .lit (.int .i64 0), .lit (.int .i64 0), .lit (.bool false), .lit (.bool false), .sl [] .full]]⟩ (AWp.reg Tryd.tyOk hΓ (keep := [1, 2]) (dead := [0]) (by kernel_rfl) rfl (by simp)) ?_
  obtain ⟨r1, h5, hr⟩ := bind_some' hr
  obtain ⟨r2, h6, hr⟩ := bind_some' hr
  refine AWp.then ⟨[⟨1, none, .ptr 0 0⟩, ⟨2, none, .ptr 1 0⟩], [.blk [.lit (.int .i64 x0.fKind), .lit (.string r1), .lit (.string r2), .lit (.int .i64 x0.fPeer), .lit (.int .i64 x0.fOf), .lit (.int .i64 x0.fTrack), .lit (.int .i64 x0.fLayer), .lit (.bool x0.fOn), .lit (.bool x0.fVideo), .sl (x0.fSsrcs.map (eNum .u32)) .no], .blk [.lit (.int .i64 0), .lit (.string ⟨#[]⟩), .lit (.string ⟨#[]⟩), .lit (.int .i64 0), .lit (.int .i64 0), .lit (.int .i64 0), .lit (.int .i64 0), .lit (.bool false), .lit (.bool false), .sl [] .full]]⟩ (AWp.regD Tryd.mixed Tryd.tyOk hΓ (keep := []) (dead := []) [] [(false, []), (false, []), (false, []), (false, []), (false, []), (false, []), (false, []), (true, []), (false, []), (true, [])] (by kernel_rfl) rfl (by simp [h5, h6])) ?_
  refine AWp.meetF (fun (v1 : Antiphonref07Command) (γ1 : Unit) => ⟨[⟨1, none, .ptr 0 0⟩, ⟨2, none, .ptr 1 0⟩], [.blk v1.enc, .blk [.lit (.int .i64 0), .lit (.string ⟨#[]⟩), .lit (.string ⟨#[]⟩), .lit (.int .i64 0), .lit (.int .i64 0), .lit (.int .i64 0), .lit (.int .i64 0), .lit (.bool false), .lit (.bool false), .sl [] .full]]⟩) (gLaw07Few.fin x0) hr (fun f hr => ?_) (fun v1 γ1 hr => ?_) (fun _ h => h)
  · refine AWp.then ⟨[⟨14, none, .lit (.bool (ltI 5 (lenL x0.fSsrcs)))⟩, ⟨1, none, .ptr 0 0⟩, ⟨2, none, .ptr 1 0⟩], [.blk [.lit (.int .i64 x0.fKind), .lit (.string r1), .lit (.string r2), .lit (.int .i64 x0.fPeer), .lit (.int .i64 x0.fOf), .lit (.int .i64 x0.fTrack), .lit (.int .i64 x0.fLayer), .lit (.bool x0.fOn), .lit (.bool x0.fVideo), .sl (x0.fSsrcs.map (eNum .u32)) .no], .blk [.lit (.int .i64 0), .lit (.string ⟨#[]⟩), .lit (.string ⟨#[]⟩), .lit (.int .i64 0), .lit (.int .i64 0), .lit (.int .i64 0), .lit (.int .i64 0), .lit (.bool false), .lit (.bool false), .sl [] .full]]⟩ (AWp.reg Tryd.tyOk hΓ (keep := [14]) (dead := []) (by kernel_rfl) rfl (by simp)) ?_
    refine AWp.cond (b := (ltI 5 (lenL x0.fSsrcs))) (by simp) (fun h7 => ?_) (fun h7 => ?_)
    · have hr := cond_t h7 hr
      obtain ⟨h8, hr⟩ := need_some hr
      refine AWp.last ⟨[⟨1, none, .ptr 0 0⟩, ⟨2, none, .ptr 1 0⟩], [.blk [.lit (.int .i64 x0.fKind), .lit (.string r1), .lit (.string r2), .lit (.int .i64 x0.fPeer), .lit (.int .i64 x0.fOf), .lit (.int .i64 x0.fTrack), .lit (.int .i64 x0.fLayer), .lit (.bool x0.fOn), .lit (.bool x0.fVideo), .sl ((cutL x0.fSsrcs 0 5).map (eNum .u32)) .no], .blk [.lit (.int .i64 0), .lit (.string ⟨#[]⟩), .lit (.string ⟨#[]⟩), .lit (.int .i64 0), .lit (.int .i64 0), .lit (.int .i64 0), .lit (.int .i64 0), .lit (.bool false), .lit (.bool false), .sl [] .full]]⟩ (AWp.reg Tryd.tyOk hΓ (keep := []) (dead := [14]) (by kernel_rfl) rfl (by simp [h7, h8])) ?_
      obtain rfl := some_inj hr
      exact meet_go () 2 (by first | (simp; done) | simp [h5, h6, h7, h8])
    · have hr := cond_f h7 hr
      refine AWp.skip ?_
      obtain rfl := some_inj hr
      exact meet_go () 2 (by first | (simp; done) | simp [h5, h6, h7])
  · refine AWp.then ⟨[⟨2, none, .ptr 1 0⟩], [.blk v1.enc, .blk v1.enc]⟩ (AWp.reg Tryd.tyOk hΓ (keep := []) (dead := [1]) (by kernel_rfl) rfl (by simp)) ?_
    refine AWp.ret ?_
    obtain rfl := some_inj hr
    refine fin_ret ?_
    simp

@[simp] noncomputable def gLaw07Few.S : Sp
  | [.agg e0], _ => (fun (y0 : Antiphonref07Command) => (fun (r : Antiphonref07Command) => some { av := .agg [.lit (.int .i64 (r.fKind)), .lit (.string (r.fRoom)), .lit (.string (r.fName)), .lit (.int .i64 (r.fPeer)), .lit (.int .i64 (r.fOf)), .lit (.int .i64 (r.fTrack)), .lit (.int .i64 (r.fLayer)), .lit (.bool (r.fOn)), .lit (.bool (r.fVideo)), .sl ((r.fSsrcs).map (eNum .u32)) .no], M := none, obl := WeakL e0 (Antiphonref07Command.enc y0) ∧ (gLaw07Few y0).isSome = true }) ((gLaw07Few y0).getD dflt)) (Antiphonref07Command.dec e0)
  | _, _ => none

set_option maxHeartbeats 1000000 in
theorem gLaw07Few.ok : SpecOk Tryd.prog 15 gLaw07Few.S := by
  intro l M out h
  unfold gLaw07Few.S at h
  split at h
  · rename_i e0
    try dsimp only at h
    cases h
    refine callOk_of fun ho => ?_
    obtain ⟨ox0, hs⟩ := ho
    generalize (Antiphonref07Command.dec e0) = x0 at *
    obtain ⟨r, hr⟩ := Option.isSome_iff_exists.1 hs
    simp only [hr, Option.getD_some]
    have q := call_frame (M := M) [] (gLaw07Few.can x0 r hr) (by simp) rfl (by intro k i hk; simp at hk)
    exact callOk_conv q trivial (by simp; exact ox0) (by simp [frameOut, gLaw07Few.out]) (by simp [frameOut, gLaw07Few.out])
  · cases h

@[simp] def gLaw07Told.out (_x0 : Antiphonref07Command) (r : Antiphonref07Command) : Out := { av := .agg [.lit (.int .i64 r.fKind), .lit (.string r.fRoom), .lit (.string r.fName), .lit (.int .i64 r.fPeer), .lit (.int .i64 r.fOf), .lit (.int .i64 r.fTrack), .lit (.int .i64 r.fLayer), .lit (.bool r.fOn), .lit (.bool r.fVideo), .sl (r.fSsrcs.map (eNum .u32)) .no], M := none }
def gLaw07Told.fin (x0 : Antiphonref07Command) (r : Antiphonref07Command) (σ : St) : Prop := finK (gLaw07Told.out x0 r) [] σ.M (resA Tryd.ty σ.A σ.M Tryd.f17.results.toList)
set_option maxHeartbeats 4000000 in
set_option maxRecDepth 100000 in
theorem gLaw07Told.can (x0 : Antiphonref07Command) (r : Antiphonref07Command) (hr : gLaw07Told x0 = some r) : CallOk Tryd.prog 17 [.agg [.lit (.int .i64 x0.fKind), .lit (.string x0.fRoom), .lit (.string x0.fName), .lit (.int .i64 x0.fPeer), .lit (.int .i64 x0.fOf), .lit (.int .i64 x0.fTrack), .lit (.int .i64 x0.fLayer), .lit (.bool x0.fOn), .lit (.bool x0.fVideo), .sl (x0.fSsrcs.map (eNum .u32)) .no]] [] (gLaw07Told.out x0 r) := by
  unfold gLaw07Told at hr
  have hΓ := gamL_nil (P := Tryd.prog)
  refine call_of_awp Tryd.tyOk Tryd.func17 rfl (by kernel_rfl) rfl rfl (by simp) ?_
  intro _ _ _
  refine AWp.then ⟨[⟨1, none, .ptr 0 0⟩, ⟨2, none, .ptr 1 0⟩], [.blk x0.enc, .blk [.lit (.int .i64 0), .lit (.string ⟨#[]⟩), .lit (.string ⟨#[]⟩), .lit (.int .i64 0), .lit (.int .i64 0), .lit (.int .i64 0), .lit (.int .i64 0), .lit (.bool false), .lit (.bool false), .sl [] .full]]⟩ (AWp.reg Tryd.tyOk hΓ (keep := [1, 2]) (dead := [0]) (by kernel_rfl) rfl (by simp)) ?_
  refine AWp.then ⟨[⟨2, none, .ptr 1 0⟩], [.blk x0.enc, .blk x0.enc]⟩ (AWp.reg Tryd.tyOk hΓ (keep := []) (dead := [1]) (by kernel_rfl) rfl (by simp)) ?_
  refine AWp.ret ?_
  obtain rfl := some_inj hr
  refine fin_ret ?_
  simp

@[simp] noncomputable def gLaw07Told.S : Sp
  | [.agg e0], _ => (fun (y0 : Antiphonref07Command) => (fun (r : Antiphonref07Command) => some { av := .agg [.lit (.int .i64 (r.fKind)), .lit (.string (r.fRoom)), .lit (.string (r.fName)), .lit (.int .i64 (r.fPeer)), .lit (.int .i64 (r.fOf)), .lit (.int .i64 (r.fTrack)), .lit (.int .i64 (r.fLayer)), .lit (.bool (r.fOn)), .lit (.bool (r.fVideo)), .sl ((r.fSsrcs).map (eNum .u32)) .no], M := none, obl := WeakL e0 (Antiphonref07Command.enc y0) ∧ (gLaw07Told y0).isSome = true }) ((gLaw07Told y0).getD dflt)) (Antiphonref07Command.dec e0)
  | _, _ => none

set_option maxHeartbeats 1000000 in
theorem gLaw07Told.ok : SpecOk Tryd.prog 17 gLaw07Told.S := by
  intro l M out h
  unfold gLaw07Told.S at h
  split at h
  · rename_i e0
    try dsimp only at h
    cases h
    refine callOk_of fun ho => ?_
    obtain ⟨ox0, hs⟩ := ho
    generalize (Antiphonref07Command.dec e0) = x0 at *
    obtain ⟨r, hr⟩ := Option.isSome_iff_exists.1 hs
    simp only [hr, Option.getD_some]
    have q := call_frame (M := M) [] (gLaw07Told.can x0 r hr) (by simp) rfl (by intro k i hk; simp at hk)
    exact callOk_conv q trivial (by simp; exact ox0) (by simp [frameOut, gLaw07Told.out]) (by simp [frameOut, gLaw07Told.out])
  · cases h

@[simp] def gLaw07Same.out (_x0 : Antiphonref07Command) (_x1 : Antiphonref07Command) (r : Int) : Out := { av := .lit (.int .i64 r), M := none }
def gLaw07Same.fin (x0 : Antiphonref07Command) (x1 : Antiphonref07Command) (r : Int) (σ : St) : Prop := finK (gLaw07Same.out x0 x1 r) [] σ.M (resA Tryd.ty σ.A σ.M Tryd.f12.results.toList)
set_option maxHeartbeats 4000000 in
set_option maxRecDepth 100000 in
theorem gLaw07Same.can (x0 : Antiphonref07Command) (x1 : Antiphonref07Command) (r : Int) (hr : gLaw07Same x0 x1 = some r) : CallOk Tryd.prog 12 [.agg [.lit (.int .i64 x0.fKind), .lit (.string x0.fRoom), .lit (.string x0.fName), .lit (.int .i64 x0.fPeer), .lit (.int .i64 x0.fOf), .lit (.int .i64 x0.fTrack), .lit (.int .i64 x0.fLayer), .lit (.bool x0.fOn), .lit (.bool x0.fVideo), .sl (x0.fSsrcs.map (eNum .u32)) .no], .agg [.lit (.int .i64 x1.fKind), .lit (.string x1.fRoom), .lit (.string x1.fName), .lit (.int .i64 x1.fPeer), .lit (.int .i64 x1.fOf), .lit (.int .i64 x1.fTrack), .lit (.int .i64 x1.fLayer), .lit (.bool x1.fOn), .lit (.bool x1.fVideo), .sl (x1.fSsrcs.map (eNum .u32)) .no]] [] (gLaw07Same.out x0 x1 r) := by
  unfold gLaw07Same at hr
  have hΓ := gamL_nil (P := Tryd.prog)
  refine call_of_awp Tryd.tyOk Tryd.func12 rfl (by kernel_rfl) rfl rfl (by simp) ?_
  intro _ _ _
  refine AWp.then ⟨[⟨2, none, .ptr 0 0⟩, ⟨3, none, .ptr 1 0⟩], [.blk x0.enc, .blk x1.enc]⟩ (AWp.reg Tryd.tyOk hΓ (keep := [2, 3]) (dead := [0, 1]) (by kernel_rfl) rfl (by simp)) ?_
  refine AWp.seq ?_
  refine AWp.then ⟨[⟨12, none, .lit (.bool (neI (lenL x0.fSsrcs) (lenL x1.fSsrcs)))⟩, ⟨2, none, .ptr 0 0⟩, ⟨3, none, .ptr 1 0⟩], [.blk x0.enc, .blk x1.enc]⟩ (AWp.reg Tryd.tyOk hΓ (keep := [12]) (dead := []) (by kernel_rfl) rfl (by simp)) ?_
  refine AWp.cond (b := (neI (lenL x0.fSsrcs) (lenL x1.fSsrcs))) (by simp) (fun h7 => ?_) (fun h7 => ?_)
  · have hr := cond_t h7 hr
    refine AWp.then ⟨[⟨4, none, .lit (.int .i64 (-1))⟩], [.blk x0.enc, .blk x1.enc]⟩ (AWp.reg Tryd.tyOk hΓ (keep := [4]) (dead := [12, 2, 3]) (by kernel_rfl) rfl (by simp [h7])) ?_
    refine AWp.ret ?_
    obtain rfl := some_inj hr
    refine fin_ret ?_
    simp
  · have hr := cond_f h7 hr
    refine AWp.skip ?_
    refine AWp.seq ?_
    refine AWp.then ⟨[⟨15, none, .lit (.int .i64 (lenL x1.fSsrcs))⟩, ⟨16, none, .lit (.int .i64 0)⟩, ⟨2, none, .ptr 0 0⟩, ⟨3, none, .ptr 1 0⟩], [.blk x0.enc, .blk x1.enc]⟩ (AWp.reg Tryd.tyOk hΓ (keep := [15, 16]) (dead := [12]) (by kernel_rfl) rfl (by simp [h7])) ?_
    refine AWp.loopE (fun (s1 : Int) (γ1 : Unit) => ⟨[⟨15, none, .lit (.int .i64 (lenL x1.fSsrcs))⟩, ⟨16, none, .lit (.int .i64 s1)⟩, ⟨2, none, .ptr 0 0⟩, ⟨3, none, .ptr 1 0⟩], [.blk x0.enc, .blk x1.enc]⟩) (fun (v1 : Unit) (γ1a : Unit) => ⟨[⟨2, none, .ptr 0 0⟩, ⟨3, none, .ptr 1 0⟩], [.blk x0.enc, .blk x1.enc]⟩) (gLaw07Same.fin x0 x1) hr () 2 (by simp) (fun s1 f γ1 hr => ?_) (fun v1 γ1a σ1 m1 hr hc => ?_) (fun _ h => h)
    · unfold gLaw07Same.loop1 at hr
      refine AWp.then ⟨[⟨17, none, .lit (.bool (ltI s1 (lenL x1.fSsrcs)))⟩, ⟨15, none, .lit (.int .i64 (lenL x1.fSsrcs))⟩, ⟨16, none, .lit (.int .i64 s1)⟩, ⟨2, none, .ptr 0 0⟩, ⟨3, none, .ptr 1 0⟩], [.blk x0.enc, .blk x1.enc]⟩ (AWp.reg Tryd.tyOk hΓ (keep := [17]) (dead := []) (by kernel_rfl) rfl (by simp)) ?_
      refine AWp.seq ?_
      refine AWp.cond (b := (ltI s1 (lenL x1.fSsrcs))) (by simp) (fun h8 => ?_) (fun h8 => ?_)
      · have hr := cond_t h8 hr
        refine AWp.skip ?_
        refine AWp.seq ?_
        refine AWp.block ?_
        refine AWp.then ⟨[⟨5, none, .lit (.int .i64 s1)⟩, ⟨15, none, .lit (.int .i64 (lenL x1.fSsrcs))⟩, ⟨16, none, .lit (.int .i64 s1)⟩, ⟨2, none, .ptr 0 0⟩, ⟨3, none, .ptr 1 0⟩], [.blk x0.enc, .blk x1.enc]⟩ (AWp.reg Tryd.tyOk hΓ (keep := [5]) (dead := [17]) (by kernel_rfl) rfl (by simp [h8])) ?_
        obtain ⟨h9, hr⟩ := need_some hr
        obtain ⟨h10, hr⟩ := need_some hr
        refine AWp.then ⟨[⟨29, none, .lit (.bool (neI (nthI x0.fSsrcs s1) (nthI x1.fSsrcs s1)))⟩, ⟨15, none, .lit (.int .i64 (lenL x1.fSsrcs))⟩, ⟨16, none, .lit (.int .i64 s1)⟩, ⟨2, none, .ptr 0 0⟩, ⟨3, none, .ptr 1 0⟩], [.blk x0.enc, .blk x1.enc]⟩ (AWp.regD Tryd.mixed Tryd.tyOk hΓ (keep := [29]) (dead := [5]) [] [(false, []), (false, []), (false, []), (false, []), (false, []), (false, []), (false, []), (false, []), (false, []), (false, []), (false, [])] (by kernel_rfl) rfl (by simp [h9, h10])) ?_
        refine AWp.cond (b := (neI (nthI x0.fSsrcs s1) (nthI x1.fSsrcs s1))) (by simp) (fun h11 => ?_) (fun h11 => ?_)
        · have hr := cond_t h11 hr
          refine AWp.then ⟨[⟨4, none, .lit (.int .i64 (-1))⟩], [.blk x0.enc, .blk x1.enc]⟩ (AWp.reg Tryd.tyOk hΓ (keep := [4]) (dead := [29, 15, 16, 2, 3]) (by kernel_rfl) rfl (by simp [h11])) ?_
          refine AWp.ret ?_
          obtain rfl := some_inj hr
          refine round_ret ?_
          refine fin_ret ?_
          simp
        · have hr := cond_f h11 hr
          refine AWp.skip ?_
          refine AWp.last ⟨[⟨16, none, .lit (.int .i64 (addI .i64 s1 1))⟩, ⟨15, none, .lit (.int .i64 (lenL x1.fSsrcs))⟩, ⟨2, none, .ptr 0 0⟩, ⟨3, none, .ptr 1 0⟩], [.blk x0.enc, .blk x1.enc]⟩ (AWp.reg Tryd.tyOk hΓ (keep := [16]) (dead := [29]) (by kernel_rfl) rfl (by simp [h11])) ?_
          obtain rfl := some_inj hr
          exact round_go () 2 (by first | (simp; done) | simp [h7, h8, h9, h10, h11])
      · have hr := cond_f h8 hr
        refine AWp.exit ?_
        obtain rfl := some_inj hr
        exact round_out () 2 (by first | (simp; done) | simp [h7, h8])
    · refine AWp.conv hc ?_
      refine AWp.seq ?_
      refine AWp.then ⟨[⟨91, none, .lit (.bool (pickB (pickB (pickB (pickB (pickB (pickB (pickB (pickB (neI x0.fKind x1.fKind) true (neS x0.fRoom x1.fRoom)) true (neS x0.fName x1.fName)) true (neI x0.fPeer x1.fPeer)) true (neI x0.fOf x1.fOf)) true (neI x0.fTrack x1.fTrack)) true (neI x0.fLayer x1.fLayer)) true (neB x0.fOn x1.fOn)) true (neB x0.fVideo x1.fVideo)))⟩], [.blk x0.enc, .blk x1.enc]⟩ (AWp.reg Tryd.tyOk hΓ (keep := [91]) (dead := [2, 3]) (by kernel_rfl) rfl (by simp)) ?_
      refine AWp.cond (b := (pickB (pickB (pickB (pickB (pickB (pickB (pickB (pickB (neI x0.fKind x1.fKind) true (neS x0.fRoom x1.fRoom)) true (neS x0.fName x1.fName)) true (neI x0.fPeer x1.fPeer)) true (neI x0.fOf x1.fOf)) true (neI x0.fTrack x1.fTrack)) true (neI x0.fLayer x1.fLayer)) true (neB x0.fOn x1.fOn)) true (neB x0.fVideo x1.fVideo))) (by simp) (fun h12 => ?_) (fun h12 => ?_)
      · have hr := cond_t h12 hr
        refine AWp.then ⟨[⟨4, none, .lit (.int .i64 (-1))⟩], [.blk x0.enc, .blk x1.enc]⟩ (AWp.reg Tryd.tyOk hΓ (keep := [4]) (dead := [91]) (by kernel_rfl) rfl (by simp [h12])) ?_
        refine AWp.ret ?_
        obtain rfl := some_inj hr
        refine fin_ret ?_
        simp
      · have hr := cond_f h12 hr
        refine AWp.skip ?_
        refine AWp.then ⟨[⟨4, none, .lit (.int .i64 0)⟩], [.blk x0.enc, .blk x1.enc]⟩ (AWp.reg Tryd.tyOk hΓ (keep := [4]) (dead := [91]) (by kernel_rfl) rfl (by simp [h12])) ?_
        refine AWp.ret ?_
        obtain rfl := some_inj hr
        refine fin_ret ?_
        simp

@[simp] noncomputable def gLaw07Same.S : Sp
  | [.agg e0, .agg e1], _ => some { av := .lit (.int .i64 ((gLaw07Same (Antiphonref07Command.dec e0) (Antiphonref07Command.dec e1)).getD dflt)), M := none, obl := WeakL e0 (Antiphonref07Command.enc (Antiphonref07Command.dec e0)) ∧ WeakL e1 (Antiphonref07Command.enc (Antiphonref07Command.dec e1)) ∧ (gLaw07Same (Antiphonref07Command.dec e0) (Antiphonref07Command.dec e1)).isSome = true }
  | _, _ => none

set_option maxHeartbeats 1000000 in
theorem gLaw07Same.ok : SpecOk Tryd.prog 12 gLaw07Same.S := by
  intro l M out h
  unfold gLaw07Same.S at h
  split at h
  · rename_i e0 e1
    cases h
    refine callOk_of fun ho => ?_
    obtain ⟨ox0, ox1, hs⟩ := ho
    generalize (Antiphonref07Command.dec e0) = x0 at *
    generalize (Antiphonref07Command.dec e1) = x1 at *
    obtain ⟨r, hr⟩ := Option.isSome_iff_exists.1 hs
    simp only [hr, Option.getD_some]
    have q := call_frame (M := M) [] (gLaw07Same.can x0 x1 r hr) (by simp) rfl (by intro k i hk; simp at hk)
    exact callOk_conv q trivial (by simp; exact ⟨ox0, ox1⟩) (by simp [frameOut, gLaw07Same.out]) (by simp [frameOut, gLaw07Same.out])
  · cases h
end Go.Proofs

/- That these functions compute what their plain functions do. No condition. -/
import Derived.Test.YtijaigjfacfhnaaDoorM03
import Derived.Test.YtijaigjfacfhnaaDoorTy
import Derived.Test.YtijaigjfacfhnaaDoorM02
import Derived.Test.YtijaigjfacfhnaaDoorOy
import Derived.Test.YtijaigjfacfhnaaDoorCc
namespace Go.Proofs
open Go.Ab
@[simp] def gRef07Names.out (_x0 : Antiphonref02Reader) (_x1 : Antiphonref07Command) (r : Antiphonref02Reader × Antiphonref07Command) : Out := { av := .tup [.agg [.lit (.string r.1.fS), .lit (.int .i64 r.1.fE)], .agg [.lit (.int .i64 r.2.fKind), .lit (.string r.2.fRoom), .lit (.string r.2.fName), .lit (.int .i64 r.2.fPeer), .lit (.int .i64 r.2.fOf), .lit (.int .i64 r.2.fTrack), .lit (.int .i64 r.2.fLayer), .lit (.bool r.2.fOn), .lit (.bool r.2.fVideo), .sl (r.2.fSsrcs.map (eNum .u32)) .no]], M := none }
def gRef07Names.fin (x0 : Antiphonref02Reader) (x1 : Antiphonref07Command) (r : Antiphonref02Reader × Antiphonref07Command) (σ : St) : Prop := finK (gRef07Names.out x0 x1 r) [] σ.M (resA Tryd.ty σ.A σ.M Tryd.f54.results.toList)
set_option maxHeartbeats 4000000 in
set_option maxRecDepth 100000 in
theorem gRef07Names.can (x0 : Antiphonref02Reader) (x1 : Antiphonref07Command) (r : Antiphonref02Reader × Antiphonref07Command) (hr : gRef07Names x0 x1 = some r) : CallOk Tryd.prog 54 [.agg [.lit (.string x0.fS), .lit (.int .i64 x0.fE)], .agg [.lit (.int .i64 x1.fKind), .lit (.string x1.fRoom), .lit (.string x1.fName), .lit (.int .i64 x1.fPeer), .lit (.int .i64 x1.fOf), .lit (.int .i64 x1.fTrack), .lit (.int .i64 x1.fLayer), .lit (.bool x1.fOn), .lit (.bool x1.fVideo), .sl (x1.fSsrcs.map (eNum .u32)) .no]] [] (gRef07Names.out x0 x1 r) := by
  unfold gRef07Names at hr
  have hΓ := (gamL_cons gRef02Bytes.ok (gamL_cons gRef02Take.ok (gamL_nil)) : GamOk Tryd.prog _)
  refine call_of_awp Tryd.tyOk Tryd.func54 rfl (by kernel_rfl) rfl rfl (by simp) ?_
  intro _ _ _
  refine AWp.then ⟨[⟨2, none, .ptr 0 0⟩, ⟨3, none, .ptr 1 0⟩, ⟨4, none, .ptr 2 0⟩, ⟨5, none, .ptr 3 0⟩], [.blk x0.enc, .blk x1.enc, .blk [.lit (.string ⟨#[]⟩), .lit (.int .i64 0)], .blk [.lit (.int .i64 0), .lit (.string ⟨#[]⟩), .lit (.string ⟨#[]⟩), .lit (.int .i64 0), .lit (.int .i64 0), .lit (.int .i64 0), .lit (.int .i64 0), .lit (.bool false), .lit (.bool false), .sl [] .full]]⟩ (AWp.reg Tryd.tyOk hΓ (keep := [2, 3, 4, 5]) (dead := [0, 1]) (by kernel_rfl) rfl (by simp)) ?_
  obtain ⟨r1, h5, hr⟩ := bind_some' hr
  refine AWp.then ⟨[⟨6, none, .lit (.int .u64 r1.2)⟩, ⟨2, none, .ptr 0 0⟩, ⟨3, none, .ptr 1 0⟩, ⟨4, none, .ptr 2 0⟩, ⟨5, none, .ptr 3 0⟩], [.blk r1.1.enc, .blk x1.enc, .blk [.lit (.string ⟨#[]⟩), .lit (.int .i64 0)], .blk [.lit (.int .i64 0), .lit (.string ⟨#[]⟩), .lit (.string ⟨#[]⟩), .lit (.int .i64 0), .lit (.int .i64 0), .lit (.int .i64 0), .lit (.int .i64 0), .lit (.bool false), .lit (.bool false), .sl [] .full]]⟩ (AWp.reg Tryd.tyOk hΓ (keep := [6]) (dead := []) (by kernel_rfl) rfl (by simp [h5])) ?_
  obtain ⟨r2, h6, hr⟩ := bind_some' hr
  refine AWp.then ⟨[⟨7, none, .lit (.string r2.2)⟩, ⟨2, none, .ptr 0 0⟩, ⟨3, none, .ptr 1 0⟩, ⟨4, none, .ptr 2 0⟩, ⟨5, none, .ptr 3 0⟩], [.blk r2.1.enc, .blk x1.enc, .blk [.lit (.string ⟨#[]⟩), .lit (.int .i64 0)], .blk [.lit (.int .i64 0), .lit (.string ⟨#[]⟩), .lit (.string ⟨#[]⟩), .lit (.int .i64 0), .lit (.int .i64 0), .lit (.int .i64 0), .lit (.int .i64 0), .lit (.bool false), .lit (.bool false), .sl [] .full]]⟩ (AWp.reg Tryd.tyOk hΓ (keep := [7]) (dead := [6]) (by kernel_rfl) rfl (by simp [h6])) ?_
  obtain ⟨r3, h7, hr⟩ := bind_some' hr
  refine AWp.then ⟨[⟨8, none, .lit (.int .u64 r3.2)⟩, ⟨7, none, .lit (.string r2.2)⟩, ⟨2, none, .ptr 0 0⟩, ⟨3, none, .ptr 1 0⟩, ⟨4, none, .ptr 2 0⟩, ⟨5, none, .ptr 3 0⟩], [.blk r3.1.enc, .blk x1.enc, .blk [.lit (.string ⟨#[]⟩), .lit (.int .i64 0)], .blk [.lit (.int .i64 0), .lit (.string ⟨#[]⟩), .lit (.string ⟨#[]⟩), .lit (.int .i64 0), .lit (.int .i64 0), .lit (.int .i64 0), .lit (.int .i64 0), .lit (.bool false), .lit (.bool false), .sl [] .full]]⟩ (AWp.reg Tryd.tyOk hΓ (keep := [8]) (dead := []) (by kernel_rfl) rfl (by simp [h7])) ?_
  obtain ⟨r4, h8, hr⟩ := bind_some' hr
  refine AWp.then ⟨[⟨9, none, .lit (.string r4.2)⟩, ⟨7, none, .lit (.string r2.2)⟩, ⟨2, none, .ptr 0 0⟩, ⟨3, none, .ptr 1 0⟩, ⟨4, none, .ptr 2 0⟩, ⟨5, none, .ptr 3 0⟩], [.blk r4.1.enc, .blk x1.enc, .blk [.lit (.string ⟨#[]⟩), .lit (.int .i64 0)], .blk [.lit (.int .i64 0), .lit (.string ⟨#[]⟩), .lit (.string ⟨#[]⟩), .lit (.int .i64 0), .lit (.int .i64 0), .lit (.int .i64 0), .lit (.int .i64 0), .lit (.bool false), .lit (.bool false), .sl [] .full]]⟩ (AWp.reg Tryd.tyOk hΓ (keep := [9]) (dead := [8]) (by kernel_rfl) rfl (by simp [h8])) ?_
  refine AWp.then ⟨[⟨9, none, .lit (.string r4.2)⟩, ⟨2, none, .ptr 0 0⟩, ⟨3, none, .ptr 1 0⟩, ⟨4, none, .ptr 2 0⟩, ⟨5, none, .ptr 3 0⟩], [.blk r4.1.enc, .blk [.lit (.int .i64 x1.fKind), .lit (.string r2.2), .lit (.string x1.fName), .lit (.int .i64 x1.fPeer), .lit (.int .i64 x1.fOf), .lit (.int .i64 x1.fTrack), .lit (.int .i64 x1.fLayer), .lit (.bool x1.fOn), .lit (.bool x1.fVideo), .sl (x1.fSsrcs.map (eNum .u32)) .no], .blk [.lit (.string ⟨#[]⟩), .lit (.int .i64 0)], .blk [.lit (.int .i64 0), .lit (.string ⟨#[]⟩), .lit (.string ⟨#[]⟩), .lit (.int .i64 0), .lit (.int .i64 0), .lit (.int .i64 0), .lit (.int .i64 0), .lit (.bool false), .lit (.bool false), .sl [] .full]]⟩ (AWp.reg Tryd.tyOk hΓ (keep := []) (dead := [7]) (by kernel_rfl) rfl (by simp)) ?_
  refine AWp.then ⟨[⟨2, none, .ptr 0 0⟩, ⟨3, none, .ptr 1 0⟩, ⟨4, none, .ptr 2 0⟩, ⟨5, none, .ptr 3 0⟩], [.blk r4.1.enc, .blk [.lit (.int .i64 x1.fKind), .lit (.string r2.2), .lit (.string r4.2), .lit (.int .i64 x1.fPeer), .lit (.int .i64 x1.fOf), .lit (.int .i64 x1.fTrack), .lit (.int .i64 x1.fLayer), .lit (.bool x1.fOn), .lit (.bool x1.fVideo), .sl (x1.fSsrcs.map (eNum .u32)) .no], .blk [.lit (.string ⟨#[]⟩), .lit (.int .i64 0)], .blk [.lit (.int .i64 0), .lit (.string ⟨#[]⟩), .lit (.string ⟨#[]⟩), .lit (.int .i64 0), .lit (.int .i64 0), .lit (.int .i64 0), .lit (.int .i64 0), .lit (.bool false), .lit (.bool false), .sl [] .full]]⟩ (AWp.reg Tryd.tyOk hΓ (keep := []) (dead := [9]) (by kernel_rfl) rfl (by simp)) ?_
  refine AWp.then ⟨[⟨4, none, .ptr 2 0⟩, ⟨5, none, .ptr 3 0⟩], [.blk r4.1.enc, .blk [.lit (.int .i64 x1.fKind), .lit (.string r2.2), .lit (.string r4.2), .lit (.int .i64 x1.fPeer), .lit (.int .i64 x1.fOf), .lit (.int .i64 x1.fTrack), .lit (.int .i64 x1.fLayer), .lit (.bool x1.fOn), .lit (.bool x1.fVideo), .sl (x1.fSsrcs.map (eNum .u32)) .no], .blk r4.1.enc, .blk [.lit (.int .i64 x1.fKind), .lit (.string r2.2), .lit (.string r4.2), .lit (.int .i64 x1.fPeer), .lit (.int .i64 x1.fOf), .lit (.int .i64 x1.fTrack), .lit (.int .i64 x1.fLayer), .lit (.bool x1.fOn), .lit (.bool x1.fVideo), .sl (x1.fSsrcs.map (eNum .u32)) .no]]⟩ (AWp.regD Tryd.mixed Tryd.tyOk hΓ (keep := []) (dead := [2, 3]) [(1, 3)] [(false, []), (false, []), (true, []), (true, [])] (by kernel_rfl) rfl (by simp)) ?_
  refine AWp.ret ?_
  obtain rfl := some_inj hr
  refine fin_ret ?_
  simp

@[simp] noncomputable def gRef07Names.S : Sp
  | [.agg e0, .agg e1], _ => (fun (y0 : Antiphonref02Reader) => (fun (y1 : Antiphonref07Command) => (fun (r : Antiphonref02Reader × Antiphonref07Command) => some { av := .tup [.agg [.lit (.string (r.1.fS)), .lit (.int .i64 (r.1.fE))], .agg [.lit (.int .i64 (r.2.fKind)), .lit (.string (r.2.fRoom)), .lit (.string (r.2.fName)), .lit (.int .i64 (r.2.fPeer)), .lit (.int .i64 (r.2.fOf)), .lit (.int .i64 (r.2.fTrack)), .lit (.int .i64 (r.2.fLayer)), .lit (.bool (r.2.fOn)), .lit (.bool (r.2.fVideo)), .sl ((r.2.fSsrcs).map (eNum .u32)) .no]], M := none, obl := WeakL e0 (Antiphonref02Reader.enc y0) ∧ WeakL e1 (Antiphonref07Command.enc y1) ∧ (gRef07Names y0 y1).isSome = true }) ((gRef07Names y0 y1).getD dflt)) (Antiphonref07Command.dec e1)) (Antiphonref02Reader.dec e0)
  | _, _ => none

set_option maxHeartbeats 1000000 in
theorem gRef07Names.ok : SpecOk Tryd.prog 54 gRef07Names.S := by
  intro l M out h
  unfold gRef07Names.S at h
  split at h
  · rename_i e0 e1
    try dsimp only at h
    cases h
    refine callOk_of fun ho => ?_
    obtain ⟨ox0, ox1, hs⟩ := ho
    generalize (Antiphonref02Reader.dec e0) = x0 at *
    generalize (Antiphonref07Command.dec e1) = x1 at *
    obtain ⟨r, hr⟩ := Option.isSome_iff_exists.1 hs
    simp only [hr, Option.getD_some]
    have q := call_frame (M := M) [] (gRef07Names.can x0 x1 r hr) (by simp) rfl (by intro k i hk; simp at hk)
    exact callOk_conv q trivial (by simp; exact ⟨ox0, ox1⟩) (by simp [frameOut, gRef07Names.out]) (by simp [frameOut, gRef07Names.out])
  · cases h

@[simp] def gRef07Truth.out (_x0 : Antiphonref02Reader) (r : Antiphonref02Reader × Bool) : Out := { av := .tup [.agg [.lit (.string r.1.fS), .lit (.int .i64 r.1.fE)], .lit (.bool r.2)], M := none }
def gRef07Truth.fin (x0 : Antiphonref02Reader) (r : Antiphonref02Reader × Bool) (σ : St) : Prop := finK (gRef07Truth.out x0 r) [] σ.M (resA Tryd.ty σ.A σ.M Tryd.f65.results.toList)
set_option maxHeartbeats 4000000 in
set_option maxRecDepth 100000 in
theorem gRef07Truth.can (x0 : Antiphonref02Reader) (r : Antiphonref02Reader × Bool) (hr : gRef07Truth x0 = some r) : CallOk Tryd.prog 65 [.agg [.lit (.string x0.fS), .lit (.int .i64 x0.fE)]] [] (gRef07Truth.out x0 r) := by
  unfold gRef07Truth at hr
  have hΓ := (gamL_cons gRef02Fail.ok (gamL_cons gRef02Take.ok (gamL_nil)) : GamOk Tryd.prog _)
  refine call_of_awp Tryd.tyOk Tryd.func65 rfl (by kernel_rfl) rfl rfl (by simp) ?_
  intro _ _ _
  refine AWp.then ⟨[⟨1, none, .ptr 0 0⟩, ⟨2, none, .ptr 1 0⟩], [.blk x0.enc, .blk [.lit (.string ⟨#[]⟩), .lit (.int .i64 0)]]⟩ (AWp.reg Tryd.tyOk hΓ (keep := [1, 2]) (dead := [0]) (by kernel_rfl) rfl (by simp)) ?_
  obtain ⟨r1, h4, hr⟩ := bind_some' hr
  refine AWp.then ⟨[⟨4, none, .lit (.int .u64 r1.2)⟩, ⟨1, none, .ptr 0 0⟩, ⟨2, none, .ptr 1 0⟩], [.blk r1.1.enc, .blk [.lit (.string ⟨#[]⟩), .lit (.int .i64 0)]]⟩ (AWp.reg Tryd.tyOk hΓ (keep := [4]) (dead := []) (by kernel_rfl) rfl (by simp [h4])) ?_
  refine AWp.seq ?_
  refine AWp.then ⟨[⟨11, none, .lit (.bool (ltI 1 r1.2))⟩, ⟨4, none, .lit (.int .u64 r1.2)⟩, ⟨1, none, .ptr 0 0⟩, ⟨2, none, .ptr 1 0⟩], [.blk r1.1.enc, .blk [.lit (.string ⟨#[]⟩), .lit (.int .i64 0)]]⟩ (AWp.reg Tryd.tyOk hΓ (keep := [11]) (dead := []) (by kernel_rfl) rfl (by simp)) ?_
  refine AWp.cond (b := (ltI 1 r1.2)) (by simp) (fun h5 => ?_) (fun h5 => ?_)
  · have hr := cond_t h5 hr
    obtain ⟨r2, h6, hr⟩ := bind_some' hr
    refine AWp.then ⟨[⟨3, none, .lit (.bool false)⟩, ⟨2, none, .ptr 1 0⟩], [.blk r1.1.enc, .blk r2.enc]⟩ (AWp.reg Tryd.tyOk hΓ (keep := [3]) (dead := [11, 4, 1]) (by kernel_rfl) rfl (by simp [h5, h6])) ?_
    refine AWp.ret ?_
    obtain rfl := some_inj hr
    refine fin_ret ?_
    simp
  · have hr := cond_f h5 hr
    refine AWp.skip ?_
    refine AWp.then ⟨[⟨3, none, .lit (.bool (eqI r1.2 1))⟩, ⟨2, none, .ptr 1 0⟩], [.blk r1.1.enc, .blk r1.1.enc]⟩ (AWp.reg Tryd.tyOk hΓ (keep := [3]) (dead := [11, 4, 1]) (by kernel_rfl) rfl (by simp [h5])) ?_
    refine AWp.ret ?_
    obtain rfl := some_inj hr
    refine fin_ret ?_
    simp

@[simp] noncomputable def gRef07Truth.S : Sp
  | [.agg e0], _ => some { av := .tup [.agg [.lit (.string (((gRef07Truth (Antiphonref02Reader.dec e0)).getD dflt).1.fS)), .lit (.int .i64 (((gRef07Truth (Antiphonref02Reader.dec e0)).getD dflt).1.fE))], .lit (.bool (((gRef07Truth (Antiphonref02Reader.dec e0)).getD dflt).2))], M := none, obl := WeakL e0 (Antiphonref02Reader.enc (Antiphonref02Reader.dec e0)) ∧ (gRef07Truth (Antiphonref02Reader.dec e0)).isSome = true }
  | _, _ => none

set_option maxHeartbeats 1000000 in
theorem gRef07Truth.ok : SpecOk Tryd.prog 65 gRef07Truth.S := by
  intro l M out h
  unfold gRef07Truth.S at h
  split at h
  · rename_i e0
    cases h
    refine callOk_of fun ho => ?_
    obtain ⟨ox0, hs⟩ := ho
    generalize (Antiphonref02Reader.dec e0) = x0 at *
    obtain ⟨r, hr⟩ := Option.isSome_iff_exists.1 hs
    simp only [hr, Option.getD_some]
    have q := call_frame (M := M) [] (gRef07Truth.can x0 r hr) (by simp) rfl (by intro k i hk; simp at hk)
    exact callOk_conv q trivial (by simp; exact ox0) (by simp [frameOut, gRef07Truth.out]) (by simp [frameOut, gRef07Truth.out])
  · cases h

@[simp] def gRef07Last.out (_x0 : Antiphonref02Reader) (_x1 : Antiphonref07Command) (_k1 : Bool) (r : Antiphonref02Reader × Antiphonref07Command) : Out := { av := .tup [.agg [.lit (.string r.1.fS), .lit (.int .i64 r.1.fE)], .agg [.lit (.int .i64 r.2.fKind), .lit (.string r.2.fRoom), .lit (.string r.2.fName), .lit (.int .i64 r.2.fPeer), .lit (.int .i64 r.2.fOf), .lit (.int .i64 r.2.fTrack), .lit (.int .i64 r.2.fLayer), .lit (.bool r.2.fOn), .lit (.bool r.2.fVideo), .sl (r.2.fSsrcs.map (eNum .u32)) .no]], M := none }
def gRef07Last.fin (x0 : Antiphonref02Reader) (x1 : Antiphonref07Command) (k1 : Bool) (r : Antiphonref02Reader × Antiphonref07Command) (σ : St) : Prop := finK (gRef07Last.out x0 x1 k1 r) [] σ.M (resA Tryd.ty σ.A σ.M Tryd.f55.results.toList)
set_option maxHeartbeats 4000000 in
set_option maxRecDepth 100000 in
theorem gRef07Last.can (x0 : Antiphonref02Reader) (x1 : Antiphonref07Command) (k1 : Bool) (r : Antiphonref02Reader × Antiphonref07Command) (hr : gRef07Last x0 x1 k1 = some r) : CallOk Tryd.prog 55 [.agg [.lit (.string x0.fS), .lit (.int .i64 x0.fE)], .agg [.lit (.int .i64 x1.fKind), .lit (.string x1.fRoom), .lit (.string x1.fName), .lit (.int .i64 x1.fPeer), .lit (.int .i64 x1.fOf), .lit (.int .i64 x1.fTrack), .lit (.int .i64 x1.fLayer), .lit (.bool x1.fOn), .lit (.bool x1.fVideo), .sl (x1.fSsrcs.map (eNum .u32)) (tokB k1)]] [] (gRef07Last.out x0 x1 k1 r) := by
  unfold gRef07Last at hr
  have hΓ := (gamL_cons gRef02Take.ok (gamL_cons gRef07Truth.ok (gamL_nil)) : GamOk Tryd.prog _)
  refine call_of_awp Tryd.tyOk Tryd.func55 rfl (by kernel_rfl) rfl rfl (by simp) ?_
  intro _ _ _
  refine AWp.then ⟨[⟨2, none, .ptr 0 0⟩, ⟨3, none, .ptr 1 0⟩, ⟨4, none, .ptr 2 0⟩, ⟨5, none, .ptr 3 0⟩], [.blk x0.enc, .blk [.lit (.int .i64 x1.fKind), .lit (.string x1.fRoom), .lit (.string x1.fName), .lit (.int .i64 x1.fPeer), .lit (.int .i64 x1.fOf), .lit (.int .i64 x1.fTrack), .lit (.int .i64 x1.fLayer), .lit (.bool x1.fOn), .lit (.bool x1.fVideo), .sl (x1.fSsrcs.map (eNum .u32)) (tokB k1)], .blk [.lit (.string ⟨#[]⟩), .lit (.int .i64 0)], .blk [.lit (.int .i64 0), .lit (.string ⟨#[]⟩), .lit (.string ⟨#[]⟩), .lit (.int .i64 0), .lit (.int .i64 0), .lit (.int .i64 0), .lit (.int .i64 0), .lit (.bool false), .lit (.bool false), .sl [] .full]]⟩ (AWp.reg Tryd.tyOk hΓ (keep := [2, 3, 4, 5]) (dead := [0, 1]) (by kernel_rfl) rfl (by simp)) ?_
  refine AWp.then ⟨[⟨6, none, .ptr 4 0⟩, ⟨3, none, .ptr 1 0⟩, ⟨4, none, .ptr 2 0⟩, ⟨5, none, .ptr 3 0⟩], [.blk x0.enc, .blk [.lit (.int .i64 x1.fKind), .lit (.string x1.fRoom), .lit (.string x1.fName), .lit (.int .i64 x1.fPeer), .lit (.int .i64 x1.fOf), .lit (.int .i64 x1.fTrack), .lit (.int .i64 x1.fLayer), .lit (.bool x1.fOn), .lit (.bool x1.fVideo), .sl (x1.fSsrcs.map (eNum .u32)) (tokB k1)], .blk [.lit (.string ⟨#[]⟩), .lit (.int .i64 0)], .blk [.lit (.int .i64 0), .lit (.string ⟨#[]⟩), .lit (.string ⟨#[]⟩), .lit (.int .i64 0), .lit (.int .i64 0), .lit (.int .i64 0), .lit (.int .i64 0), .lit (.bool false), .lit (.bool false), .sl [] .full], .blk x0.enc]⟩ (AWp.reg Tryd.tyOk hΓ (keep := [6]) (dead := [2]) (by kernel_rfl) rfl (by simp)) ?_
  refine AWp.meetF (fun (v1 : Int × Antiphonref02Reader) (γ1 : Unit) => ⟨[⟨6, none, .ptr 4 0⟩, ⟨3, none, .ptr 1 0⟩, ⟨4, none, .ptr 2 0⟩, ⟨5, none, .ptr 3 0⟩], [.blk x0.enc, .blk [.lit (.int .i64 x1.fKind), .lit (.string x1.fRoom), .lit (.string x1.fName), .lit (.int .i64 x1.fPeer), .lit (.int .i64 x1.fOf), .lit (.int .i64 x1.fTrack), .lit (.int .i64 v1.1), .lit (.bool x1.fOn), .lit (.bool x1.fVideo), .sl (x1.fSsrcs.map (eNum .u32)) (tokB k1)], .blk [.lit (.string ⟨#[]⟩), .lit (.int .i64 0)], .blk [.lit (.int .i64 0), .lit (.string ⟨#[]⟩), .lit (.string ⟨#[]⟩), .lit (.int .i64 0), .lit (.int .i64 0), .lit (.int .i64 0), .lit (.int .i64 0), .lit (.bool false), .lit (.bool false), .sl [] .full], .blk v1.2.enc]⟩) (gRef07Last.fin x0 x1 k1) hr (fun f hr => ?_) (fun v1 γ1 hr => ?_) (fun _ h => h)
  · refine AWp.then ⟨[⟨21, none, .lit (.bool (eqI x1.fKind 5))⟩, ⟨6, none, .ptr 4 0⟩, ⟨3, none, .ptr 1 0⟩, ⟨4, none, .ptr 2 0⟩, ⟨5, none, .ptr 3 0⟩], [.blk x0.enc, .blk [.lit (.int .i64 x1.fKind), .lit (.string x1.fRoom), .lit (.string x1.fName), .lit (.int .i64 x1.fPeer), .lit (.int .i64 x1.fOf), .lit (.int .i64 x1.fTrack), .lit (.int .i64 x1.fLayer), .lit (.bool x1.fOn), .lit (.bool x1.fVideo), .sl (x1.fSsrcs.map (eNum .u32)) (tokB k1)], .blk [.lit (.string ⟨#[]⟩), .lit (.int .i64 0)], .blk [.lit (.int .i64 0), .lit (.string ⟨#[]⟩), .lit (.string ⟨#[]⟩), .lit (.int .i64 0), .lit (.int .i64 0), .lit (.int .i64 0), .lit (.int .i64 0), .lit (.bool false), .lit (.bool false), .sl [] .full], .blk x0.enc]⟩ (AWp.reg Tryd.tyOk hΓ (keep := [21]) (dead := []) (by kernel_rfl) rfl (by simp)) ?_
    refine AWp.cond (b := (eqI x1.fKind 5)) (by simp) (fun h12 => ?_) (fun h12 => ?_)
    · have hr := cond_t h12 hr
      obtain ⟨r1, h13, hr⟩ := bind_some' hr
      refine AWp.then ⟨[⟨7, none, .ptr 5 0⟩, ⟨8, none, .lit (.int .u64 r1.2)⟩, ⟨6, none, .ptr 4 0⟩, ⟨3, none, .ptr 1 0⟩, ⟨4, none, .ptr 2 0⟩, ⟨5, none, .ptr 3 0⟩], [.blk x0.enc, .blk [.lit (.int .i64 x1.fKind), .lit (.string x1.fRoom), .lit (.string x1.fName), .lit (.int .i64 x1.fPeer), .lit (.int .i64 x1.fOf), .lit (.int .i64 x1.fTrack), .lit (.int .i64 x1.fLayer), .lit (.bool x1.fOn), .lit (.bool x1.fVideo), .sl (x1.fSsrcs.map (eNum .u32)) (tokB k1)], .blk [.lit (.string ⟨#[]⟩), .lit (.int .i64 0)], .blk [.lit (.int .i64 0), .lit (.string ⟨#[]⟩), .lit (.string ⟨#[]⟩), .lit (.int .i64 0), .lit (.int .i64 0), .lit (.int .i64 0), .lit (.int .i64 0), .lit (.bool false), .lit (.bool false), .sl [] .full], .blk x0.enc, .blk r1.1.enc]⟩ (AWp.reg Tryd.tyOk hΓ (keep := [7, 8]) (dead := [21]) (by kernel_rfl) rfl (by simp [h12, h13])) ?_
      refine AWp.then ⟨[⟨8, none, .lit (.int .u64 r1.2)⟩, ⟨6, none, .ptr 4 0⟩, ⟨3, none, .ptr 1 0⟩, ⟨4, none, .ptr 2 0⟩, ⟨5, none, .ptr 3 0⟩], [.blk x0.enc, .blk [.lit (.int .i64 x1.fKind), .lit (.string x1.fRoom), .lit (.string x1.fName), .lit (.int .i64 x1.fPeer), .lit (.int .i64 x1.fOf), .lit (.int .i64 x1.fTrack), .lit (.int .i64 x1.fLayer), .lit (.bool x1.fOn), .lit (.bool x1.fVideo), .sl (x1.fSsrcs.map (eNum .u32)) (tokB k1)], .blk [.lit (.string ⟨#[]⟩), .lit (.int .i64 0)], .blk [.lit (.int .i64 0), .lit (.string ⟨#[]⟩), .lit (.string ⟨#[]⟩), .lit (.int .i64 0), .lit (.int .i64 0), .lit (.int .i64 0), .lit (.int .i64 0), .lit (.bool false), .lit (.bool false), .sl [] .full], .blk r1.1.enc, .blk r1.1.enc]⟩ (AWp.reg Tryd.tyOk hΓ (keep := []) (dead := [7]) (by kernel_rfl) rfl (by simp)) ?_
      refine AWp.last ⟨[⟨6, none, .ptr 4 0⟩, ⟨3, none, .ptr 1 0⟩, ⟨4, none, .ptr 2 0⟩, ⟨5, none, .ptr 3 0⟩], [.blk x0.enc, .blk [.lit (.int .i64 x1.fKind), .lit (.string x1.fRoom), .lit (.string x1.fName), .lit (.int .i64 x1.fPeer), .lit (.int .i64 x1.fOf), .lit (.int .i64 x1.fTrack), .lit (.int .i64 (cvtI .i64 r1.2)), .lit (.bool x1.fOn), .lit (.bool x1.fVideo), .sl (x1.fSsrcs.map (eNum .u32)) (tokB k1)], .blk [.lit (.string ⟨#[]⟩), .lit (.int .i64 0)], .blk [.lit (.int .i64 0), .lit (.string ⟨#[]⟩), .lit (.string ⟨#[]⟩), .lit (.int .i64 0), .lit (.int .i64 0), .lit (.int .i64 0), .lit (.int .i64 0), .lit (.bool false), .lit (.bool false), .sl [] .full], .blk r1.1.enc, .blk r1.1.enc]⟩ (AWp.reg Tryd.tyOk hΓ (keep := []) (dead := [8]) (by kernel_rfl) rfl (by simp)) ?_
      obtain rfl := some_inj hr
      exact meet_go () 5 (by first | (simp; done) | simp [h12, h13])
    · have hr := cond_f h12 hr
      refine AWp.skip ?_
      obtain rfl := some_inj hr
      exact meet_go () 5 (by first | (simp; done) | simp [h12])
  · refine AWp.meetF (fun (v2 : Bool × Antiphonref02Reader) (γ2 : Unit) => ⟨[⟨6, none, .ptr 4 0⟩, ⟨3, none, .ptr 1 0⟩, ⟨4, none, .ptr 2 0⟩, ⟨5, none, .ptr 3 0⟩], [.blk x0.enc, .blk [.lit (.int .i64 x1.fKind), .lit (.string x1.fRoom), .lit (.string x1.fName), .lit (.int .i64 x1.fPeer), .lit (.int .i64 x1.fOf), .lit (.int .i64 x1.fTrack), .lit (.int .i64 v1.1), .lit (.bool v2.1), .lit (.bool x1.fVideo), .sl (x1.fSsrcs.map (eNum .u32)) (tokB k1)], .blk [.lit (.string ⟨#[]⟩), .lit (.int .i64 0)], .blk [.lit (.int .i64 0), .lit (.string ⟨#[]⟩), .lit (.string ⟨#[]⟩), .lit (.int .i64 0), .lit (.int .i64 0), .lit (.int .i64 0), .lit (.int .i64 0), .lit (.bool false), .lit (.bool false), .sl [] .full], .blk v2.2.enc]⟩) (gRef07Last.fin x0 x1 k1) hr (fun f hr => ?_) (fun v2 γ2 hr => ?_) (fun _ h => h)
    · refine AWp.then ⟨[⟨33, none, .lit (.bool (leqI 7 x1.fKind))⟩, ⟨6, none, .ptr 4 0⟩, ⟨3, none, .ptr 1 0⟩, ⟨4, none, .ptr 2 0⟩, ⟨5, none, .ptr 3 0⟩], [.blk x0.enc, .blk [.lit (.int .i64 x1.fKind), .lit (.string x1.fRoom), .lit (.string x1.fName), .lit (.int .i64 x1.fPeer), .lit (.int .i64 x1.fOf), .lit (.int .i64 x1.fTrack), .lit (.int .i64 v1.1), .lit (.bool x1.fOn), .lit (.bool x1.fVideo), .sl (x1.fSsrcs.map (eNum .u32)) (tokB k1)], .blk [.lit (.string ⟨#[]⟩), .lit (.int .i64 0)], .blk [.lit (.int .i64 0), .lit (.string ⟨#[]⟩), .lit (.string ⟨#[]⟩), .lit (.int .i64 0), .lit (.int .i64 0), .lit (.int .i64 0), .lit (.int .i64 0), .lit (.bool false), .lit (.bool false), .sl [] .full], .blk v1.2.enc]⟩ (AWp.reg Tryd.tyOk hΓ (keep := [33]) (dead := []) (by kernel_rfl) rfl (by simp)) ?_
      refine AWp.cond (b := (leqI 7 x1.fKind)) (by simp) (fun h14 => ?_) (fun h14 => ?_)
      · have hr := cond_t h14 hr
        obtain ⟨r2, h15, hr⟩ := bind_some' hr
        refine AWp.then ⟨[⟨9, none, .ptr 5 0⟩, ⟨10, none, .lit (.bool r2.2)⟩, ⟨6, none, .ptr 4 0⟩, ⟨3, none, .ptr 1 0⟩, ⟨4, none, .ptr 2 0⟩, ⟨5, none, .ptr 3 0⟩], [.blk x0.enc, .blk [.lit (.int .i64 x1.fKind), .lit (.string x1.fRoom), .lit (.string x1.fName), .lit (.int .i64 x1.fPeer), .lit (.int .i64 x1.fOf), .lit (.int .i64 x1.fTrack), .lit (.int .i64 v1.1), .lit (.bool x1.fOn), .lit (.bool x1.fVideo), .sl (x1.fSsrcs.map (eNum .u32)) (tokB k1)], .blk [.lit (.string ⟨#[]⟩), .lit (.int .i64 0)], .blk [.lit (.int .i64 0), .lit (.string ⟨#[]⟩), .lit (.string ⟨#[]⟩), .lit (.int .i64 0), .lit (.int .i64 0), .lit (.int .i64 0), .lit (.int .i64 0), .lit (.bool false), .lit (.bool false), .sl [] .full], .blk v1.2.enc, .blk r2.1.enc]⟩ (AWp.reg Tryd.tyOk hΓ (keep := [9, 10]) (dead := [33]) (by kernel_rfl) rfl (by simp [h14, h15])) ?_
        refine AWp.then ⟨[⟨10, none, .lit (.bool r2.2)⟩, ⟨6, none, .ptr 4 0⟩, ⟨3, none, .ptr 1 0⟩, ⟨4, none, .ptr 2 0⟩, ⟨5, none, .ptr 3 0⟩], [.blk x0.enc, .blk [.lit (.int .i64 x1.fKind), .lit (.string x1.fRoom), .lit (.string x1.fName), .lit (.int .i64 x1.fPeer), .lit (.int .i64 x1.fOf), .lit (.int .i64 x1.fTrack), .lit (.int .i64 v1.1), .lit (.bool x1.fOn), .lit (.bool x1.fVideo), .sl (x1.fSsrcs.map (eNum .u32)) (tokB k1)], .blk [.lit (.string ⟨#[]⟩), .lit (.int .i64 0)], .blk [.lit (.int .i64 0), .lit (.string ⟨#[]⟩), .lit (.string ⟨#[]⟩), .lit (.int .i64 0), .lit (.int .i64 0), .lit (.int .i64 0), .lit (.int .i64 0), .lit (.bool false), .lit (.bool false), .sl [] .full], .blk r2.1.enc, .blk r2.1.enc]⟩ (AWp.reg Tryd.tyOk hΓ (keep := []) (dead := [9]) (by kernel_rfl) rfl (by simp)) ?_
        refine AWp.last ⟨[⟨6, none, .ptr 4 0⟩, ⟨3, none, .ptr 1 0⟩, ⟨4, none, .ptr 2 0⟩, ⟨5, none, .ptr 3 0⟩], [.blk x0.enc, .blk [.lit (.int .i64 x1.fKind), .lit (.string x1.fRoom), .lit (.string x1.fName), .lit (.int .i64 x1.fPeer), .lit (.int .i64 x1.fOf), .lit (.int .i64 x1.fTrack), .lit (.int .i64 v1.1), .lit (.bool r2.2), .lit (.bool x1.fVideo), .sl (x1.fSsrcs.map (eNum .u32)) (tokB k1)], .blk [.lit (.string ⟨#[]⟩), .lit (.int .i64 0)], .blk [.lit (.int .i64 0), .lit (.string ⟨#[]⟩), .lit (.string ⟨#[]⟩), .lit (.int .i64 0), .lit (.int .i64 0), .lit (.int .i64 0), .lit (.int .i64 0), .lit (.bool false), .lit (.bool false), .sl [] .full], .blk r2.1.enc, .blk r2.1.enc]⟩ (AWp.reg Tryd.tyOk hΓ (keep := []) (dead := [10]) (by kernel_rfl) rfl (by simp)) ?_
        obtain rfl := some_inj hr
        exact meet_go () 5 (by first | (simp; done) | simp [h14, h15])
      · have hr := cond_f h14 hr
        refine AWp.skip ?_
        obtain rfl := some_inj hr
        exact meet_go () 5 (by first | (simp; done) | simp [h14])
    · refine AWp.meetF (fun (v3 : Bool × List Int × Antiphonref02Reader × Bool) (γ3 : Unit) => ⟨[⟨6, none, .ptr 4 0⟩, ⟨3, none, .ptr 1 0⟩, ⟨4, none, .ptr 2 0⟩, ⟨5, none, .ptr 3 0⟩], [.blk x0.enc, .blk [.lit (.int .i64 x1.fKind), .lit (.string x1.fRoom), .lit (.string x1.fName), .lit (.int .i64 x1.fPeer), .lit (.int .i64 x1.fOf), .lit (.int .i64 x1.fTrack), .lit (.int .i64 v1.1), .lit (.bool v2.1), .lit (.bool v3.1), .sl (v3.2.1.map (eNum .u32)) (tokB v3.2.2.2)], .blk [.lit (.string ⟨#[]⟩), .lit (.int .i64 0)], .blk [.lit (.int .i64 0), .lit (.string ⟨#[]⟩), .lit (.string ⟨#[]⟩), .lit (.int .i64 0), .lit (.int .i64 0), .lit (.int .i64 0), .lit (.int .i64 0), .lit (.bool false), .lit (.bool false), .sl [] .full], .blk v3.2.2.1.enc]⟩) (gRef07Last.fin x0 x1 k1) hr (fun f hr => ?_) (fun v3 γ3 hr => ?_) (fun _ h => h)
      · refine AWp.then ⟨[⟨44, none, .lit (.bool (eqI x1.fKind 3))⟩, ⟨6, none, .ptr 4 0⟩, ⟨3, none, .ptr 1 0⟩, ⟨4, none, .ptr 2 0⟩, ⟨5, none, .ptr 3 0⟩], [.blk x0.enc, .blk [.lit (.int .i64 x1.fKind), .lit (.string x1.fRoom), .lit (.string x1.fName), .lit (.int .i64 x1.fPeer), .lit (.int .i64 x1.fOf), .lit (.int .i64 x1.fTrack), .lit (.int .i64 v1.1), .lit (.bool v2.1), .lit (.bool x1.fVideo), .sl (x1.fSsrcs.map (eNum .u32)) (tokB k1)], .blk [.lit (.string ⟨#[]⟩), .lit (.int .i64 0)], .blk [.lit (.int .i64 0), .lit (.string ⟨#[]⟩), .lit (.string ⟨#[]⟩), .lit (.int .i64 0), .lit (.int .i64 0), .lit (.int .i64 0), .lit (.int .i64 0), .lit (.bool false), .lit (.bool false), .sl [] .full], .blk v2.2.enc]⟩ (AWp.reg Tryd.tyOk hΓ (keep := [44]) (dead := []) (by kernel_rfl) rfl (by simp)) ?_
        refine AWp.cond (b := (eqI x1.fKind 3)) (by simp) (fun h16 => ?_) (fun h16 => ?_)
        · have hr := cond_t h16 hr
          obtain ⟨r3, h17, hr⟩ := bind_some' hr
          refine AWp.then ⟨[⟨11, none, .ptr 5 0⟩, ⟨12, none, .lit (.bool r3.2)⟩, ⟨6, none, .ptr 4 0⟩, ⟨3, none, .ptr 1 0⟩, ⟨4, none, .ptr 2 0⟩, ⟨5, none, .ptr 3 0⟩], [.blk x0.enc, .blk [.lit (.int .i64 x1.fKind), .lit (.string x1.fRoom), .lit (.string x1.fName), .lit (.int .i64 x1.fPeer), .lit (.int .i64 x1.fOf), .lit (.int .i64 x1.fTrack), .lit (.int .i64 v1.1), .lit (.bool v2.1), .lit (.bool x1.fVideo), .sl (x1.fSsrcs.map (eNum .u32)) (tokB k1)], .blk [.lit (.string ⟨#[]⟩), .lit (.int .i64 0)], .blk [.lit (.int .i64 0), .lit (.string ⟨#[]⟩), .lit (.string ⟨#[]⟩), .lit (.int .i64 0), .lit (.int .i64 0), .lit (.int .i64 0), .lit (.int .i64 0), .lit (.bool false), .lit (.bool false), .sl [] .full], .blk v2.2.enc, .blk r3.1.enc]⟩ (AWp.reg Tryd.tyOk hΓ (keep := [11, 12]) (dead := [44]) (by kernel_rfl) rfl (by simp [h16, h17])) ?_
          obtain ⟨r4, h18, hr⟩ := bind_some' hr
          refine AWp.then ⟨[⟨13, none, .ptr 6 0⟩, ⟨14, none, .lit (.int .u64 r4.2)⟩, ⟨12, none, .lit (.bool r3.2)⟩, ⟨6, none, .ptr 4 0⟩, ⟨3, none, .ptr 1 0⟩, ⟨4, none, .ptr 2 0⟩, ⟨5, none, .ptr 3 0⟩], [.blk x0.enc, .blk [.lit (.int .i64 x1.fKind), .lit (.string x1.fRoom), .lit (.string x1.fName), .lit (.int .i64 x1.fPeer), .lit (.int .i64 x1.fOf), .lit (.int .i64 x1.fTrack), .lit (.int .i64 v1.1), .lit (.bool v2.1), .lit (.bool x1.fVideo), .sl (x1.fSsrcs.map (eNum .u32)) (tokB k1)], .blk [.lit (.string ⟨#[]⟩), .lit (.int .i64 0)], .blk [.lit (.int .i64 0), .lit (.string ⟨#[]⟩), .lit (.string ⟨#[]⟩), .lit (.int .i64 0), .lit (.int .i64 0), .lit (.int .i64 0), .lit (.int .i64 0), .lit (.bool false), .lit (.bool false), .sl [] .full], .blk v2.2.enc, .blk r3.1.enc, .blk r4.1.enc]⟩ (AWp.reg Tryd.tyOk hΓ (keep := [13, 14]) (dead := [11]) (by kernel_rfl) rfl (by simp [h18])) ?_
          refine AWp.then ⟨[⟨14, none, .lit (.int .u64 r4.2)⟩, ⟨12, none, .lit (.bool r3.2)⟩, ⟨6, none, .ptr 4 0⟩, ⟨3, none, .ptr 1 0⟩, ⟨4, none, .ptr 2 0⟩, ⟨5, none, .ptr 3 0⟩], [.blk x0.enc, .blk [.lit (.int .i64 x1.fKind), .lit (.string x1.fRoom), .lit (.string x1.fName), .lit (.int .i64 x1.fPeer), .lit (.int .i64 x1.fOf), .lit (.int .i64 x1.fTrack), .lit (.int .i64 v1.1), .lit (.bool v2.1), .lit (.bool x1.fVideo), .sl (x1.fSsrcs.map (eNum .u32)) (tokB k1)], .blk [.lit (.string ⟨#[]⟩), .lit (.int .i64 0)], .blk [.lit (.int .i64 0), .lit (.string ⟨#[]⟩), .lit (.string ⟨#[]⟩), .lit (.int .i64 0), .lit (.int .i64 0), .lit (.int .i64 0), .lit (.int .i64 0), .lit (.bool false), .lit (.bool false), .sl [] .full], .blk r4.1.enc, .blk r3.1.enc, .blk r4.1.enc]⟩ (AWp.reg Tryd.tyOk hΓ (keep := []) (dead := [13]) (by kernel_rfl) rfl (by simp)) ?_
          refine AWp.then ⟨[⟨14, none, .lit (.int .u64 r4.2)⟩, ⟨6, none, .ptr 4 0⟩, ⟨3, none, .ptr 1 0⟩, ⟨4, none, .ptr 2 0⟩, ⟨5, none, .ptr 3 0⟩], [.blk x0.enc, .blk [.lit (.int .i64 x1.fKind), .lit (.string x1.fRoom), .lit (.string x1.fName), .lit (.int .i64 x1.fPeer), .lit (.int .i64 x1.fOf), .lit (.int .i64 x1.fTrack), .lit (.int .i64 v1.1), .lit (.bool v2.1), .lit (.bool r3.2), .sl (x1.fSsrcs.map (eNum .u32)) (tokB k1)], .blk [.lit (.string ⟨#[]⟩), .lit (.int .i64 0)], .blk [.lit (.int .i64 0), .lit (.string ⟨#[]⟩), .lit (.string ⟨#[]⟩), .lit (.int .i64 0), .lit (.int .i64 0), .lit (.int .i64 0), .lit (.int .i64 0), .lit (.bool false), .lit (.bool false), .sl [] .full], .blk r4.1.enc, .blk r3.1.enc, .blk r4.1.enc]⟩ (AWp.reg Tryd.tyOk hΓ (keep := []) (dead := [12]) (by kernel_rfl) rfl (by simp)) ?_
          refine AWp.then ⟨[⟨15, none, .lit (.int .i64 0)⟩, ⟨14, none, .lit (.int .u64 r4.2)⟩, ⟨6, none, .ptr 4 0⟩, ⟨3, none, .ptr 1 0⟩, ⟨4, none, .ptr 2 0⟩, ⟨5, none, .ptr 3 0⟩], [.blk x0.enc, .blk [.lit (.int .i64 x1.fKind), .lit (.string x1.fRoom), .lit (.string x1.fName), .lit (.int .i64 x1.fPeer), .lit (.int .i64 x1.fOf), .lit (.int .i64 x1.fTrack), .lit (.int .i64 v1.1), .lit (.bool v2.1), .lit (.bool r3.2), .sl (x1.fSsrcs.map (eNum .u32)) (tokB k1)], .blk [.lit (.string ⟨#[]⟩), .lit (.int .i64 0)], .blk [.lit (.int .i64 0), .lit (.string ⟨#[]⟩), .lit (.string ⟨#[]⟩), .lit (.int .i64 0), .lit (.int .i64 0), .lit (.int .i64 0), .lit (.int .i64 0), .lit (.bool false), .lit (.bool false), .sl [] .full], .blk r4.1.enc, .blk r3.1.enc, .blk r4.1.enc]⟩ (AWp.reg Tryd.tyOk hΓ (keep := [15]) (dead := []) (by kernel_rfl) rfl (by simp)) ?_
          obtain ⟨h19, hr⟩ := need_some hr
          refine AWp.equipC 1 9 1 (els := (x1.fSsrcs.map (eNum .u32))) (cells := _) rfl (by simp [h19]) (by simp) ?_
          refine AWp.loopE (fun (s4 : Int × List Int × Antiphonref02Reader) (γ4 : Nat) => ⟨[⟨15, none, .lit (.int .i64 s4.1)⟩, ⟨14, none, .lit (.int .u64 r4.2)⟩, ⟨6, none, .ptr 4 0⟩, ⟨3, none, .ptr 1 0⟩, ⟨4, none, .ptr 2 0⟩, ⟨5, none, .ptr 3 0⟩], [.blk x0.enc, .blk [.lit (.int .i64 x1.fKind), .lit (.string x1.fRoom), .lit (.string x1.fName), .lit (.int .i64 x1.fPeer), .lit (.int .i64 x1.fOf), .lit (.int .i64 x1.fTrack), .lit (.int .i64 v1.1), .lit (.bool v2.1), .lit (.bool r3.2), .sl (s4.2.1.map (eNum .u32)) (.own 7 (γ4) 1)], .blk [.lit (.string ⟨#[]⟩), .lit (.int .i64 0)], .blk [.lit (.int .i64 0), .lit (.string ⟨#[]⟩), .lit (.string ⟨#[]⟩), .lit (.int .i64 0), .lit (.int .i64 0), .lit (.int .i64 0), .lit (.int .i64 0), .lit (.bool false), .lit (.bool false), .sl [] .full], .blk s4.2.2.enc, .blk r3.1.enc, .blk r4.1.enc, .room (γ4)]⟩) (fun (v4 : List Int × Antiphonref02Reader) (γ4a : Nat) => ⟨[⟨6, none, .ptr 4 0⟩, ⟨3, none, .ptr 1 0⟩, ⟨4, none, .ptr 2 0⟩, ⟨5, none, .ptr 3 0⟩], [.blk x0.enc, .blk [.lit (.int .i64 x1.fKind), .lit (.string x1.fRoom), .lit (.string x1.fName), .lit (.int .i64 x1.fPeer), .lit (.int .i64 x1.fOf), .lit (.int .i64 x1.fTrack), .lit (.int .i64 v1.1), .lit (.bool v2.1), .lit (.bool r3.2), .sl (v4.1.map (eNum .u32)) (.own 7 (γ4a) 1)], .blk [.lit (.string ⟨#[]⟩), .lit (.int .i64 0)], .blk [.lit (.int .i64 0), .lit (.string ⟨#[]⟩), .lit (.string ⟨#[]⟩), .lit (.int .i64 0), .lit (.int .i64 0), .lit (.int .i64 0), .lit (.int .i64 0), .lit (.bool false), .lit (.bool false), .sl [] .full], .blk v4.2.enc, .blk r3.1.enc, .blk r4.1.enc, .room (γ4a)]⟩) (QRm (gRef07Last.fin x0 x1 k1)) hr 0 8 (by simp) (fun s4 f γ4 hr => ?_) (fun v4 γ4a σ1 m1 hr hc => ?_) (fun _ h => QRm_ret h)
          · unfold gRef07Last.loop4 at hr
            refine AWp.seq ?_
            refine AWp.then ⟨[⟨61, none, .lit (.bool (ltI s4.1 (cvtI .i64 r4.2)))⟩, ⟨15, none, .lit (.int .i64 s4.1)⟩, ⟨14, none, .lit (.int .u64 r4.2)⟩, ⟨6, none, .ptr 4 0⟩, ⟨3, none, .ptr 1 0⟩, ⟨4, none, .ptr 2 0⟩, ⟨5, none, .ptr 3 0⟩], [.blk x0.enc, .blk [.lit (.int .i64 x1.fKind), .lit (.string x1.fRoom), .lit (.string x1.fName), .lit (.int .i64 x1.fPeer), .lit (.int .i64 x1.fOf), .lit (.int .i64 x1.fTrack), .lit (.int .i64 v1.1), .lit (.bool v2.1), .lit (.bool r3.2), .sl (s4.2.1.map (eNum .u32)) (.own 7 (γ4) 1)], .blk [.lit (.string ⟨#[]⟩), .lit (.int .i64 0)], .blk [.lit (.int .i64 0), .lit (.string ⟨#[]⟩), .lit (.string ⟨#[]⟩), .lit (.int .i64 0), .lit (.int .i64 0), .lit (.int .i64 0), .lit (.int .i64 0), .lit (.bool false), .lit (.bool false), .sl [] .full], .blk s4.2.2.enc, .blk r3.1.enc, .blk r4.1.enc, .room (γ4)]⟩ (AWp.reg Tryd.tyOk hΓ (keep := [61]) (dead := []) (by kernel_rfl) rfl (by simp)) ?_
            refine AWp.cond (b := (ltI s4.1 (cvtI .i64 r4.2))) (by simp) (fun h20 => ?_) (fun h20 => ?_)
            · have hr := cond_t h20 hr
              refine AWp.skip ?_
              refine AWp.seq ?_
              refine AWp.block ?_
              obtain ⟨r5, h21, hr⟩ := bind_some' hr
              refine AWp.then ⟨[⟨16, none, .ptr 8 0⟩, ⟨17, none, .lit (.int .u64 r5.2)⟩, ⟨15, none, .lit (.int .i64 s4.1)⟩, ⟨14, none, .lit (.int .u64 r4.2)⟩, ⟨6, none, .ptr 4 0⟩, ⟨3, none, .ptr 1 0⟩, ⟨4, none, .ptr 2 0⟩, ⟨5, none, .ptr 3 0⟩], [.blk x0.enc, .blk [.lit (.int .i64 x1.fKind), .lit (.string x1.fRoom), .lit (.string x1.fName), .lit (.int .i64 x1.fPeer), .lit (.int .i64 x1.fOf), .lit (.int .i64 x1.fTrack), .lit (.int .i64 v1.1), .lit (.bool v2.1), .lit (.bool r3.2), .sl (s4.2.1.map (eNum .u32)) (.own 7 (γ4) 1)], .blk [.lit (.string ⟨#[]⟩), .lit (.int .i64 0)], .blk [.lit (.int .i64 0), .lit (.string ⟨#[]⟩), .lit (.string ⟨#[]⟩), .lit (.int .i64 0), .lit (.int .i64 0), .lit (.int .i64 0), .lit (.int .i64 0), .lit (.bool false), .lit (.bool false), .sl [] .full], .blk s4.2.2.enc, .blk r3.1.enc, .blk r4.1.enc, .room (γ4), .blk r5.1.enc]⟩ (AWp.reg Tryd.tyOk hΓ (keep := [16, 17]) (dead := [61]) (by kernel_rfl) rfl (by simp [h20, h21])) ?_
              refine AWp.then ⟨[⟨17, none, .lit (.int .u64 r5.2)⟩, ⟨15, none, .lit (.int .i64 s4.1)⟩, ⟨14, none, .lit (.int .u64 r4.2)⟩, ⟨6, none, .ptr 4 0⟩, ⟨3, none, .ptr 1 0⟩, ⟨4, none, .ptr 2 0⟩, ⟨5, none, .ptr 3 0⟩], [.blk x0.enc, .blk [.lit (.int .i64 x1.fKind), .lit (.string x1.fRoom), .lit (.string x1.fName), .lit (.int .i64 x1.fPeer), .lit (.int .i64 x1.fOf), .lit (.int .i64 x1.fTrack), .lit (.int .i64 v1.1), .lit (.bool v2.1), .lit (.bool r3.2), .sl (s4.2.1.map (eNum .u32)) (.own 7 (γ4) 1)], .blk [.lit (.string ⟨#[]⟩), .lit (.int .i64 0)], .blk [.lit (.int .i64 0), .lit (.string ⟨#[]⟩), .lit (.string ⟨#[]⟩), .lit (.int .i64 0), .lit (.int .i64 0), .lit (.int .i64 0), .lit (.int .i64 0), .lit (.bool false), .lit (.bool false), .sl [] .full], .blk r5.1.enc, .blk r3.1.enc, .blk r4.1.enc, .room (γ4), .blk r5.1.enc]⟩ (AWp.reg Tryd.tyOk hΓ (keep := []) (dead := [16]) (by kernel_rfl) rfl (by simp)) ?_
              obtain ⟨h22, hr⟩ := need_some hr
              refine AWp.last ⟨[⟨15, none, .lit (.int .i64 s4.1)⟩, ⟨14, none, .lit (.int .u64 r4.2)⟩, ⟨6, none, .ptr 4 0⟩, ⟨3, none, .ptr 1 0⟩, ⟨4, none, .ptr 2 0⟩, ⟨5, none, .ptr 3 0⟩], [.blk x0.enc, .blk [.lit (.int .i64 x1.fKind), .lit (.string x1.fRoom), .lit (.string x1.fName), .lit (.int .i64 x1.fPeer), .lit (.int .i64 x1.fOf), .lit (.int .i64 x1.fTrack), .lit (.int .i64 v1.1), .lit (.bool v2.1), .lit (.bool r3.2), .sl ((appL s4.2.1 [(cvtI .u32 r5.2)]).map (eNum .u32)) (.own 7 (γ4 + 1) 1)], .blk [.lit (.string ⟨#[]⟩), .lit (.int .i64 0)], .blk [.lit (.int .i64 0), .lit (.string ⟨#[]⟩), .lit (.string ⟨#[]⟩), .lit (.int .i64 0), .lit (.int .i64 0), .lit (.int .i64 0), .lit (.int .i64 0), .lit (.bool false), .lit (.bool false), .sl [] .full], .blk r5.1.enc, .blk r3.1.enc, .blk r4.1.enc, .room (γ4 + 1), .blk r5.1.enc]⟩ (AWp.reg Tryd.tyOk hΓ (keep := []) (dead := [17]) (by kernel_rfl) rfl (by simp [h22])) ?_
              refine AWp.last ⟨[⟨15, none, .lit (.int .i64 (addI .i64 s4.1 1))⟩, ⟨14, none, .lit (.int .u64 r4.2)⟩, ⟨6, none, .ptr 4 0⟩, ⟨3, none, .ptr 1 0⟩, ⟨4, none, .ptr 2 0⟩, ⟨5, none, .ptr 3 0⟩], [.blk x0.enc, .blk [.lit (.int .i64 x1.fKind), .lit (.string x1.fRoom), .lit (.string x1.fName), .lit (.int .i64 x1.fPeer), .lit (.int .i64 x1.fOf), .lit (.int .i64 x1.fTrack), .lit (.int .i64 v1.1), .lit (.bool v2.1), .lit (.bool r3.2), .sl ((appL s4.2.1 [(cvtI .u32 r5.2)]).map (eNum .u32)) (.own 7 (γ4 + 1) 1)], .blk [.lit (.string ⟨#[]⟩), .lit (.int .i64 0)], .blk [.lit (.int .i64 0), .lit (.string ⟨#[]⟩), .lit (.string ⟨#[]⟩), .lit (.int .i64 0), .lit (.int .i64 0), .lit (.int .i64 0), .lit (.int .i64 0), .lit (.bool false), .lit (.bool false), .sl [] .full], .blk r5.1.enc, .blk r3.1.enc, .blk r4.1.enc, .room (γ4 + 1), .blk r5.1.enc]⟩ (AWp.reg Tryd.tyOk hΓ (keep := [15]) (dead := []) (by kernel_rfl) rfl (by simp)) ?_
              obtain rfl := some_inj hr
              exact round_go (γ4 + 1) 8 (by first | (simp; done) | simp [h16, h17, h18, h19, h20, h21, h22])
            · have hr := cond_f h20 hr
              refine AWp.exit ?_
              obtain rfl := some_inj hr
              exact round_out (γ4) 8 (by first | (simp; done) | simp [h16, h17, h18, h19, h20])
          · obtain rfl := some_inj hr
            exact meet_go () 5 (Conv.trans hc (by first | (simp; done) | simp [h16, h17, h18, h19]))
        · have hr := cond_f h16 hr
          refine AWp.skip ?_
          obtain rfl := some_inj hr
          exact meet_go () 5 (by first | (simp; done) | simp [h16])
      · refine AWp.then ⟨[⟨4, none, .ptr 2 0⟩, ⟨5, none, .ptr 3 0⟩], [.blk x0.enc, .blk [.lit (.int .i64 x1.fKind), .lit (.string x1.fRoom), .lit (.string x1.fName), .lit (.int .i64 x1.fPeer), .lit (.int .i64 x1.fOf), .lit (.int .i64 x1.fTrack), .lit (.int .i64 v1.1), .lit (.bool v2.1), .lit (.bool v3.1), .sl (v3.2.1.map (eNum .u32)) (tokB v3.2.2.2)], .blk v3.2.2.1.enc, .blk [.lit (.int .i64 x1.fKind), .lit (.string x1.fRoom), .lit (.string x1.fName), .lit (.int .i64 x1.fPeer), .lit (.int .i64 x1.fOf), .lit (.int .i64 x1.fTrack), .lit (.int .i64 v1.1), .lit (.bool v2.1), .lit (.bool v3.1), .sl (v3.2.1.map (eNum .u32)) (tokB v3.2.2.2)], .blk v3.2.2.1.enc]⟩ (AWp.regD Tryd.mixed Tryd.tyOk hΓ (keep := []) (dead := [6, 3]) [(1, 3)] [(false, []), (false, []), (true, []), (true, [])] (by kernel_rfl) rfl (by simp)) ?_
        refine AWp.ret ?_
        obtain rfl := some_inj hr
        refine fin_ret ?_
        simp

@[simp] noncomputable def gRef07Last.S : Sp
  | [.agg e0, .agg e1], _ => (fun (y0 : Antiphonref02Reader) => (fun (y1 : Antiphonref07Command) => (fun (r : Antiphonref02Reader × Antiphonref07Command) => some { av := .tup [.agg [.lit (.string (r.1.fS)), .lit (.int .i64 (r.1.fE))], .agg [.lit (.int .i64 (r.2.fKind)), .lit (.string (r.2.fRoom)), .lit (.string (r.2.fName)), .lit (.int .i64 (r.2.fPeer)), .lit (.int .i64 (r.2.fOf)), .lit (.int .i64 (r.2.fTrack)), .lit (.int .i64 (r.2.fLayer)), .lit (.bool (r.2.fOn)), .lit (.bool (r.2.fVideo)), .sl ((r.2.fSsrcs).map (eNum .u32)) .no]], M := none, obl := WeakL e0 (Antiphonref02Reader.enc y0) ∧ WeakL e1 [.lit (.int .i64 (y1.fKind)), .lit (.string (y1.fRoom)), .lit (.string (y1.fName)), .lit (.int .i64 (y1.fPeer)), .lit (.int .i64 (y1.fOf)), .lit (.int .i64 (y1.fTrack)), .lit (.int .i64 (y1.fLayer)), .lit (.bool (y1.fOn)), .lit (.bool (y1.fVideo)), .sl ((y1.fSsrcs).map (eNum .u32)) (tokB (flagAt e1 9))] ∧ (gRef07Last y0 y1 (flagAt e1 9)).isSome = true }) ((gRef07Last y0 y1 (flagAt e1 9)).getD dflt)) (Antiphonref07Command.dec e1)) (Antiphonref02Reader.dec e0)
  | _, _ => none

set_option maxHeartbeats 1000000 in
theorem gRef07Last.ok : SpecOk Tryd.prog 55 gRef07Last.S := by
  intro l M out h
  unfold gRef07Last.S at h
  split at h
  · rename_i e0 e1
    try dsimp only at h
    cases h
    refine callOk_of fun ho => ?_
    obtain ⟨ox0, ox1, hs⟩ := ho
    generalize (Antiphonref02Reader.dec e0) = x0 at *
    generalize (Antiphonref07Command.dec e1) = x1 at *
    generalize (flagAt e1 9) = kf1 at *
    cases kf1
    all_goals
      obtain ⟨r, hr⟩ := Option.isSome_iff_exists.1 hs
      simp only [hr, Option.getD_some]
      have q := call_frame (M := M) [] (gRef07Last.can x0 x1 _ r hr) (by simp) rfl (by intro k i hk; simp at hk)
      exact callOk_conv q trivial (by simp; exact ⟨ox0, ox1⟩) (by simp [frameOut, gRef07Last.out]) (by simp [frameOut, gRef07Last.out])
  · cases h

@[simp] def gRef07Parts.out (_x0 : Antiphonref02Reader) (_x1 : Antiphonref07Command) (_k1 : Bool) (r : Antiphonref02Reader × Antiphonref07Command) : Out := { av := .tup [.agg [.lit (.string r.1.fS), .lit (.int .i64 r.1.fE)], .agg [.lit (.int .i64 r.2.fKind), .lit (.string r.2.fRoom), .lit (.string r.2.fName), .lit (.int .i64 r.2.fPeer), .lit (.int .i64 r.2.fOf), .lit (.int .i64 r.2.fTrack), .lit (.int .i64 r.2.fLayer), .lit (.bool r.2.fOn), .lit (.bool r.2.fVideo), .sl (r.2.fSsrcs.map (eNum .u32)) .no]], M := none }
def gRef07Parts.fin (x0 : Antiphonref02Reader) (x1 : Antiphonref07Command) (k1 : Bool) (r : Antiphonref02Reader × Antiphonref07Command) (σ : St) : Prop := finK (gRef07Parts.out x0 x1 k1 r) [] σ.M (resA Tryd.ty σ.A σ.M Tryd.f27.results.toList)
set_option maxHeartbeats 4000000 in
set_option maxRecDepth 100000 in
theorem gRef07Parts.can (x0 : Antiphonref02Reader) (x1 : Antiphonref07Command) (k1 : Bool) (r : Antiphonref02Reader × Antiphonref07Command) (hr : gRef07Parts x0 x1 k1 = some r) : CallOk Tryd.prog 27 [.agg [.lit (.string x0.fS), .lit (.int .i64 x0.fE)], .agg [.lit (.int .i64 x1.fKind), .lit (.string x1.fRoom), .lit (.string x1.fName), .lit (.int .i64 x1.fPeer), .lit (.int .i64 x1.fOf), .lit (.int .i64 x1.fTrack), .lit (.int .i64 x1.fLayer), .lit (.bool x1.fOn), .lit (.bool x1.fVideo), .sl (x1.fSsrcs.map (eNum .u32)) (tokB k1)]] [] (gRef07Parts.out x0 x1 k1 r) := by
  unfold gRef07Parts at hr
  have hΓ := (gamL_cons gRef02Take.ok (gamL_cons gRef07Last.ok (gamL_cons gRef07Names.ok (gamL_cons gRef07Of.ok (gamL_cons gRef07Track.ok (gamL_nil))))) : GamOk Tryd.prog _)
  refine call_of_awp Tryd.tyOk Tryd.func27 rfl (by kernel_rfl) rfl rfl (by simp) ?_
  intro _ _ _
  refine AWp.then ⟨[⟨2, none, .ptr 0 0⟩, ⟨3, none, .ptr 1 0⟩, ⟨4, none, .ptr 2 0⟩, ⟨5, none, .ptr 3 0⟩], [.blk x0.enc, .blk [.lit (.int .i64 x1.fKind), .lit (.string x1.fRoom), .lit (.string x1.fName), .lit (.int .i64 x1.fPeer), .lit (.int .i64 x1.fOf), .lit (.int .i64 x1.fTrack), .lit (.int .i64 x1.fLayer), .lit (.bool x1.fOn), .lit (.bool x1.fVideo), .sl (x1.fSsrcs.map (eNum .u32)) (tokB k1)], .blk [.lit (.string ⟨#[]⟩), .lit (.int .i64 0)], .blk [.lit (.int .i64 0), .lit (.string ⟨#[]⟩), .lit (.string ⟨#[]⟩), .lit (.int .i64 0), .lit (.int .i64 0), .lit (.int .i64 0), .lit (.int .i64 0), .lit (.bool false), .lit (.bool false), .sl [] .full]]⟩ (AWp.reg Tryd.tyOk hΓ (keep := [2, 3, 4, 5]) (dead := [0, 1]) (by kernel_rfl) rfl (by simp)) ?_
  refine AWp.seq ?_
  refine AWp.then ⟨[⟨14, none, .lit (.bool (eqI x1.fKind 1))⟩, ⟨2, none, .ptr 0 0⟩, ⟨3, none, .ptr 1 0⟩, ⟨4, none, .ptr 2 0⟩, ⟨5, none, .ptr 3 0⟩], [.blk x0.enc, .blk [.lit (.int .i64 x1.fKind), .lit (.string x1.fRoom), .lit (.string x1.fName), .lit (.int .i64 x1.fPeer), .lit (.int .i64 x1.fOf), .lit (.int .i64 x1.fTrack), .lit (.int .i64 x1.fLayer), .lit (.bool x1.fOn), .lit (.bool x1.fVideo), .sl (x1.fSsrcs.map (eNum .u32)) (tokB k1)], .blk [.lit (.string ⟨#[]⟩), .lit (.int .i64 0)], .blk [.lit (.int .i64 0), .lit (.string ⟨#[]⟩), .lit (.string ⟨#[]⟩), .lit (.int .i64 0), .lit (.int .i64 0), .lit (.int .i64 0), .lit (.int .i64 0), .lit (.bool false), .lit (.bool false), .sl [] .full]]⟩ (AWp.reg Tryd.tyOk hΓ (keep := [14]) (dead := []) (by kernel_rfl) rfl (by simp)) ?_
  refine AWp.cond (b := (eqI x1.fKind 1)) (by simp) (fun h11 => ?_) (fun h11 => ?_)
  · have hr := cond_t h11 hr
    obtain ⟨r1, h12, hr⟩ := bind_some' hr
    refine AWp.then ⟨[⟨4, none, .ptr 2 0⟩, ⟨5, none, .ptr 3 0⟩], [.blk x0.enc, .blk [.lit (.int .i64 x1.fKind), .lit (.string x1.fRoom), .lit (.string x1.fName), .lit (.int .i64 x1.fPeer), .lit (.int .i64 x1.fOf), .lit (.int .i64 x1.fTrack), .lit (.int .i64 x1.fLayer), .lit (.bool x1.fOn), .lit (.bool x1.fVideo), .sl (x1.fSsrcs.map (eNum .u32)) (tokB k1)], .blk r1.1.enc, .blk r1.2.enc]⟩ (AWp.reg Tryd.tyOk hΓ (keep := []) (dead := [14, 2, 3]) (by kernel_rfl) rfl (by simp [h11, h12])) ?_
    refine AWp.ret ?_
    obtain rfl := some_inj hr
    refine fin_ret ?_
    simp
  · have hr := cond_f h11 hr
    refine AWp.skip ?_
    obtain ⟨r2, h13, hr⟩ := bind_some' hr
    refine AWp.then ⟨[⟨6, none, .ptr 4 0⟩, ⟨7, none, .lit (.int .u64 r2.2)⟩, ⟨3, none, .ptr 1 0⟩, ⟨4, none, .ptr 2 0⟩, ⟨5, none, .ptr 3 0⟩], [.blk x0.enc, .blk [.lit (.int .i64 x1.fKind), .lit (.string x1.fRoom), .lit (.string x1.fName), .lit (.int .i64 x1.fPeer), .lit (.int .i64 x1.fOf), .lit (.int .i64 x1.fTrack), .lit (.int .i64 x1.fLayer), .lit (.bool x1.fOn), .lit (.bool x1.fVideo), .sl (x1.fSsrcs.map (eNum .u32)) (tokB k1)], .blk [.lit (.string ⟨#[]⟩), .lit (.int .i64 0)], .blk [.lit (.int .i64 0), .lit (.string ⟨#[]⟩), .lit (.string ⟨#[]⟩), .lit (.int .i64 0), .lit (.int .i64 0), .lit (.int .i64 0), .lit (.int .i64 0), .lit (.bool false), .lit (.bool false), .sl [] .full], .blk r2.1.enc]⟩ (AWp.reg Tryd.tyOk hΓ (keep := [6, 7]) (dead := [14, 2]) (by kernel_rfl) rfl (by simp [h11, h13])) ?_
    refine AWp.then ⟨[⟨6, none, .ptr 4 0⟩, ⟨3, none, .ptr 1 0⟩, ⟨4, none, .ptr 2 0⟩, ⟨5, none, .ptr 3 0⟩], [.blk x0.enc, .blk [.lit (.int .i64 x1.fKind), .lit (.string x1.fRoom), .lit (.string x1.fName), .lit (.int .i64 (cvtI .i64 r2.2)), .lit (.int .i64 x1.fOf), .lit (.int .i64 x1.fTrack), .lit (.int .i64 x1.fLayer), .lit (.bool x1.fOn), .lit (.bool x1.fVideo), .sl (x1.fSsrcs.map (eNum .u32)) (tokB k1)], .blk [.lit (.string ⟨#[]⟩), .lit (.int .i64 0)], .blk [.lit (.int .i64 0), .lit (.string ⟨#[]⟩), .lit (.string ⟨#[]⟩), .lit (.int .i64 0), .lit (.int .i64 0), .lit (.int .i64 0), .lit (.int .i64 0), .lit (.bool false), .lit (.bool false), .sl [] .full], .blk r2.1.enc]⟩ (AWp.reg Tryd.tyOk hΓ (keep := []) (dead := [7]) (by kernel_rfl) rfl (by simp)) ?_
    refine AWp.meetF (fun (v1 : Int × Antiphonref02Reader) (γ1 : Unit) => ⟨[⟨6, none, .ptr 4 0⟩, ⟨3, none, .ptr 1 0⟩, ⟨4, none, .ptr 2 0⟩, ⟨5, none, .ptr 3 0⟩], [.blk x0.enc, .blk [.lit (.int .i64 x1.fKind), .lit (.string x1.fRoom), .lit (.string x1.fName), .lit (.int .i64 (cvtI .i64 r2.2)), .lit (.int .i64 v1.1), .lit (.int .i64 x1.fTrack), .lit (.int .i64 x1.fLayer), .lit (.bool x1.fOn), .lit (.bool x1.fVideo), .sl (x1.fSsrcs.map (eNum .u32)) (tokB k1)], .blk [.lit (.string ⟨#[]⟩), .lit (.int .i64 0)], .blk [.lit (.int .i64 0), .lit (.string ⟨#[]⟩), .lit (.string ⟨#[]⟩), .lit (.int .i64 0), .lit (.int .i64 0), .lit (.int .i64 0), .lit (.int .i64 0), .lit (.bool false), .lit (.bool false), .sl [] .full], .blk v1.2.enc]⟩) (gRef07Parts.fin x0 x1 k1) hr (fun f hr => ?_) (fun v1 γ1 hr => ?_) (fun _ h => h)
    · obtain ⟨r3, h14, hr⟩ := bind_some' hr
      refine AWp.then ⟨[⟨30, none, .lit (.bool r3)⟩, ⟨6, none, .ptr 4 0⟩, ⟨3, none, .ptr 1 0⟩, ⟨4, none, .ptr 2 0⟩, ⟨5, none, .ptr 3 0⟩], [.blk x0.enc, .blk [.lit (.int .i64 x1.fKind), .lit (.string x1.fRoom), .lit (.string x1.fName), .lit (.int .i64 (cvtI .i64 r2.2)), .lit (.int .i64 x1.fOf), .lit (.int .i64 x1.fTrack), .lit (.int .i64 x1.fLayer), .lit (.bool x1.fOn), .lit (.bool x1.fVideo), .sl (x1.fSsrcs.map (eNum .u32)) (tokB k1)], .blk [.lit (.string ⟨#[]⟩), .lit (.int .i64 0)], .blk [.lit (.int .i64 0), .lit (.string ⟨#[]⟩), .lit (.string ⟨#[]⟩), .lit (.int .i64 0), .lit (.int .i64 0), .lit (.int .i64 0), .lit (.int .i64 0), .lit (.bool false), .lit (.bool false), .sl [] .full], .blk r2.1.enc]⟩ (AWp.reg Tryd.tyOk hΓ (keep := [30]) (dead := []) (by kernel_rfl) rfl (by simp [h14])) ?_
      refine AWp.cond (b := r3) (by simp) (fun h15 => ?_) (fun h15 => ?_)
      · have hr := cond_t h15 hr
        obtain ⟨r4, h16, hr⟩ := bind_some' hr
        refine AWp.then ⟨[⟨8, none, .ptr 5 0⟩, ⟨9, none, .lit (.int .u64 r4.2)⟩, ⟨6, none, .ptr 4 0⟩, ⟨3, none, .ptr 1 0⟩, ⟨4, none, .ptr 2 0⟩, ⟨5, none, .ptr 3 0⟩], [.blk x0.enc, .blk [.lit (.int .i64 x1.fKind), .lit (.string x1.fRoom), .lit (.string x1.fName), .lit (.int .i64 (cvtI .i64 r2.2)), .lit (.int .i64 x1.fOf), .lit (.int .i64 x1.fTrack), .lit (.int .i64 x1.fLayer), .lit (.bool x1.fOn), .lit (.bool x1.fVideo), .sl (x1.fSsrcs.map (eNum .u32)) (tokB k1)], .blk [.lit (.string ⟨#[]⟩), .lit (.int .i64 0)], .blk [.lit (.int .i64 0), .lit (.string ⟨#[]⟩), .lit (.string ⟨#[]⟩), .lit (.int .i64 0), .lit (.int .i64 0), .lit (.int .i64 0), .lit (.int .i64 0), .lit (.bool false), .lit (.bool false), .sl [] .full], .blk r2.1.enc, .blk r4.1.enc]⟩ (AWp.reg Tryd.tyOk hΓ (keep := [8, 9]) (dead := [30]) (by kernel_rfl) rfl (by simp [h15, h16])) ?_
        refine AWp.then ⟨[⟨9, none, .lit (.int .u64 r4.2)⟩, ⟨6, none, .ptr 4 0⟩, ⟨3, none, .ptr 1 0⟩, ⟨4, none, .ptr 2 0⟩, ⟨5, none, .ptr 3 0⟩], [.blk x0.enc, .blk [.lit (.int .i64 x1.fKind), .lit (.string x1.fRoom), .lit (.string x1.fName), .lit (.int .i64 (cvtI .i64 r2.2)), .lit (.int .i64 x1.fOf), .lit (.int .i64 x1.fTrack), .lit (.int .i64 x1.fLayer), .lit (.bool x1.fOn), .lit (.bool x1.fVideo), .sl (x1.fSsrcs.map (eNum .u32)) (tokB k1)], .blk [.lit (.string ⟨#[]⟩), .lit (.int .i64 0)], .blk [.lit (.int .i64 0), .lit (.string ⟨#[]⟩), .lit (.string ⟨#[]⟩), .lit (.int .i64 0), .lit (.int .i64 0), .lit (.int .i64 0), .lit (.int .i64 0), .lit (.bool false), .lit (.bool false), .sl [] .full], .blk r4.1.enc, .blk r4.1.enc]⟩ (AWp.reg Tryd.tyOk hΓ (keep := []) (dead := [8]) (by kernel_rfl) rfl (by simp)) ?_
        refine AWp.last ⟨[⟨6, none, .ptr 4 0⟩, ⟨3, none, .ptr 1 0⟩, ⟨4, none, .ptr 2 0⟩, ⟨5, none, .ptr 3 0⟩], [.blk x0.enc, .blk [.lit (.int .i64 x1.fKind), .lit (.string x1.fRoom), .lit (.string x1.fName), .lit (.int .i64 (cvtI .i64 r2.2)), .lit (.int .i64 (cvtI .i64 r4.2)), .lit (.int .i64 x1.fTrack), .lit (.int .i64 x1.fLayer), .lit (.bool x1.fOn), .lit (.bool x1.fVideo), .sl (x1.fSsrcs.map (eNum .u32)) (tokB k1)], .blk [.lit (.string ⟨#[]⟩), .lit (.int .i64 0)], .blk [.lit (.int .i64 0), .lit (.string ⟨#[]⟩), .lit (.string ⟨#[]⟩), .lit (.int .i64 0), .lit (.int .i64 0), .lit (.int .i64 0), .lit (.int .i64 0), .lit (.bool false), .lit (.bool false), .sl [] .full], .blk r4.1.enc, .blk r4.1.enc]⟩ (AWp.reg Tryd.tyOk hΓ (keep := []) (dead := [9]) (by kernel_rfl) rfl (by simp)) ?_
        obtain rfl := some_inj hr
        exact meet_go () 5 (by first | (simp; done) | simp [h11, h13, h14, h15, h16])
      · have hr := cond_f h15 hr
        refine AWp.skip ?_
        obtain rfl := some_inj hr
        exact meet_go () 5 (by first | (simp; done) | simp [h11, h13, h14, h15])
    · refine AWp.meetF (fun (v2 : Int × Antiphonref02Reader) (γ2 : Unit) => ⟨[⟨6, none, .ptr 4 0⟩, ⟨3, none, .ptr 1 0⟩, ⟨4, none, .ptr 2 0⟩, ⟨5, none, .ptr 3 0⟩], [.blk x0.enc, .blk [.lit (.int .i64 x1.fKind), .lit (.string x1.fRoom), .lit (.string x1.fName), .lit (.int .i64 (cvtI .i64 r2.2)), .lit (.int .i64 v1.1), .lit (.int .i64 v2.1), .lit (.int .i64 x1.fLayer), .lit (.bool x1.fOn), .lit (.bool x1.fVideo), .sl (x1.fSsrcs.map (eNum .u32)) (tokB k1)], .blk [.lit (.string ⟨#[]⟩), .lit (.int .i64 0)], .blk [.lit (.int .i64 0), .lit (.string ⟨#[]⟩), .lit (.string ⟨#[]⟩), .lit (.int .i64 0), .lit (.int .i64 0), .lit (.int .i64 0), .lit (.int .i64 0), .lit (.bool false), .lit (.bool false), .sl [] .full], .blk v2.2.enc]⟩) (gRef07Parts.fin x0 x1 k1) hr (fun f hr => ?_) (fun v2 γ2 hr => ?_) (fun _ h => h)
      · obtain ⟨r5, h17, hr⟩ := bind_some' hr
        refine AWp.then ⟨[⟨42, none, .lit (.bool r5)⟩, ⟨6, none, .ptr 4 0⟩, ⟨3, none, .ptr 1 0⟩, ⟨4, none, .ptr 2 0⟩, ⟨5, none, .ptr 3 0⟩], [.blk x0.enc, .blk [.lit (.int .i64 x1.fKind), .lit (.string x1.fRoom), .lit (.string x1.fName), .lit (.int .i64 (cvtI .i64 r2.2)), .lit (.int .i64 v1.1), .lit (.int .i64 x1.fTrack), .lit (.int .i64 x1.fLayer), .lit (.bool x1.fOn), .lit (.bool x1.fVideo), .sl (x1.fSsrcs.map (eNum .u32)) (tokB k1)], .blk [.lit (.string ⟨#[]⟩), .lit (.int .i64 0)], .blk [.lit (.int .i64 0), .lit (.string ⟨#[]⟩), .lit (.string ⟨#[]⟩), .lit (.int .i64 0), .lit (.int .i64 0), .lit (.int .i64 0), .lit (.int .i64 0), .lit (.bool false), .lit (.bool false), .sl [] .full], .blk v1.2.enc]⟩ (AWp.reg Tryd.tyOk hΓ (keep := [42]) (dead := []) (by kernel_rfl) rfl (by simp [h17])) ?_
        refine AWp.cond (b := r5) (by simp) (fun h18 => ?_) (fun h18 => ?_)
        · have hr := cond_t h18 hr
          obtain ⟨r6, h19, hr⟩ := bind_some' hr
          refine AWp.then ⟨[⟨10, none, .ptr 5 0⟩, ⟨11, none, .lit (.int .u64 r6.2)⟩, ⟨6, none, .ptr 4 0⟩, ⟨3, none, .ptr 1 0⟩, ⟨4, none, .ptr 2 0⟩, ⟨5, none, .ptr 3 0⟩], [.blk x0.enc, .blk [.lit (.int .i64 x1.fKind), .lit (.string x1.fRoom), .lit (.string x1.fName), .lit (.int .i64 (cvtI .i64 r2.2)), .lit (.int .i64 v1.1), .lit (.int .i64 x1.fTrack), .lit (.int .i64 x1.fLayer), .lit (.bool x1.fOn), .lit (.bool x1.fVideo), .sl (x1.fSsrcs.map (eNum .u32)) (tokB k1)], .blk [.lit (.string ⟨#[]⟩), .lit (.int .i64 0)], .blk [.lit (.int .i64 0), .lit (.string ⟨#[]⟩), .lit (.string ⟨#[]⟩), .lit (.int .i64 0), .lit (.int .i64 0), .lit (.int .i64 0), .lit (.int .i64 0), .lit (.bool false), .lit (.bool false), .sl [] .full], .blk v1.2.enc, .blk r6.1.enc]⟩ (AWp.reg Tryd.tyOk hΓ (keep := [10, 11]) (dead := [42]) (by kernel_rfl) rfl (by simp [h18, h19])) ?_
          refine AWp.then ⟨[⟨11, none, .lit (.int .u64 r6.2)⟩, ⟨6, none, .ptr 4 0⟩, ⟨3, none, .ptr 1 0⟩, ⟨4, none, .ptr 2 0⟩, ⟨5, none, .ptr 3 0⟩], [.blk x0.enc, .blk [.lit (.int .i64 x1.fKind), .lit (.string x1.fRoom), .lit (.string x1.fName), .lit (.int .i64 (cvtI .i64 r2.2)), .lit (.int .i64 v1.1), .lit (.int .i64 x1.fTrack), .lit (.int .i64 x1.fLayer), .lit (.bool x1.fOn), .lit (.bool x1.fVideo), .sl (x1.fSsrcs.map (eNum .u32)) (tokB k1)], .blk [.lit (.string ⟨#[]⟩), .lit (.int .i64 0)], .blk [.lit (.int .i64 0), .lit (.string ⟨#[]⟩), .lit (.string ⟨#[]⟩), .lit (.int .i64 0), .lit (.int .i64 0), .lit (.int .i64 0), .lit (.int .i64 0), .lit (.bool false), .lit (.bool false), .sl [] .full], .blk r6.1.enc, .blk r6.1.enc]⟩ (AWp.reg Tryd.tyOk hΓ (keep := []) (dead := [10]) (by kernel_rfl) rfl (by simp)) ?_
          refine AWp.last ⟨[⟨6, none, .ptr 4 0⟩, ⟨3, none, .ptr 1 0⟩, ⟨4, none, .ptr 2 0⟩, ⟨5, none, .ptr 3 0⟩], [.blk x0.enc, .blk [.lit (.int .i64 x1.fKind), .lit (.string x1.fRoom), .lit (.string x1.fName), .lit (.int .i64 (cvtI .i64 r2.2)), .lit (.int .i64 v1.1), .lit (.int .i64 (cvtI .i64 r6.2)), .lit (.int .i64 x1.fLayer), .lit (.bool x1.fOn), .lit (.bool x1.fVideo), .sl (x1.fSsrcs.map (eNum .u32)) (tokB k1)], .blk [.lit (.string ⟨#[]⟩), .lit (.int .i64 0)], .blk [.lit (.int .i64 0), .lit (.string ⟨#[]⟩), .lit (.string ⟨#[]⟩), .lit (.int .i64 0), .lit (.int .i64 0), .lit (.int .i64 0), .lit (.int .i64 0), .lit (.bool false), .lit (.bool false), .sl [] .full], .blk r6.1.enc, .blk r6.1.enc]⟩ (AWp.reg Tryd.tyOk hΓ (keep := []) (dead := [11]) (by kernel_rfl) rfl (by simp)) ?_
          obtain rfl := some_inj hr
          exact meet_go () 5 (by first | (simp; done) | simp [h11, h13, h17, h18, h19])
        · have hr := cond_f h18 hr
          refine AWp.skip ?_
          obtain rfl := some_inj hr
          exact meet_go () 5 (by first | (simp; done) | simp [h11, h13, h17, h18])
      · obtain ⟨r7, h20, hr⟩ := bind_some' hr
        refine AWp.then ⟨[⟨4, none, .ptr 2 0⟩, ⟨5, none, .ptr 3 0⟩], [.blk x0.enc, .blk [.lit (.int .i64 x1.fKind), .lit (.string x1.fRoom), .lit (.string x1.fName), .lit (.int .i64 (cvtI .i64 r2.2)), .lit (.int .i64 v1.1), .lit (.int .i64 v2.1), .lit (.int .i64 x1.fLayer), .lit (.bool x1.fOn), .lit (.bool x1.fVideo), .sl (x1.fSsrcs.map (eNum .u32)) (tokB k1)], .blk r7.1.enc, .blk r7.2.enc, .blk v2.2.enc]⟩ (AWp.reg Tryd.tyOk hΓ (keep := []) (dead := [6, 3]) (by kernel_rfl) rfl (by simp [h20])) ?_
        refine AWp.ret ?_
        obtain rfl := some_inj hr
        refine fin_ret ?_
        simp

@[simp] noncomputable def gRef07Parts.S : Sp
  | [.agg e0, .agg e1], _ => (fun (y0 : Antiphonref02Reader) => (fun (y1 : Antiphonref07Command) => (fun (r : Antiphonref02Reader × Antiphonref07Command) => some { av := .tup [.agg [.lit (.string (r.1.fS)), .lit (.int .i64 (r.1.fE))], .agg [.lit (.int .i64 (r.2.fKind)), .lit (.string (r.2.fRoom)), .lit (.string (r.2.fName)), .lit (.int .i64 (r.2.fPeer)), .lit (.int .i64 (r.2.fOf)), .lit (.int .i64 (r.2.fTrack)), .lit (.int .i64 (r.2.fLayer)), .lit (.bool (r.2.fOn)), .lit (.bool (r.2.fVideo)), .sl ((r.2.fSsrcs).map (eNum .u32)) .no]], M := none, obl := WeakL e0 (Antiphonref02Reader.enc y0) ∧ WeakL e1 [.lit (.int .i64 (y1.fKind)), .lit (.string (y1.fRoom)), .lit (.string (y1.fName)), .lit (.int .i64 (y1.fPeer)), .lit (.int .i64 (y1.fOf)), .lit (.int .i64 (y1.fTrack)), .lit (.int .i64 (y1.fLayer)), .lit (.bool (y1.fOn)), .lit (.bool (y1.fVideo)), .sl ((y1.fSsrcs).map (eNum .u32)) (tokB (flagAt e1 9))] ∧ (gRef07Parts y0 y1 (flagAt e1 9)).isSome = true }) ((gRef07Parts y0 y1 (flagAt e1 9)).getD dflt)) (Antiphonref07Command.dec e1)) (Antiphonref02Reader.dec e0)
  | _, _ => none

set_option maxHeartbeats 1000000 in
theorem gRef07Parts.ok : SpecOk Tryd.prog 27 gRef07Parts.S := by
  intro l M out h
  unfold gRef07Parts.S at h
  split at h
  · rename_i e0 e1
    try dsimp only at h
    cases h
    refine callOk_of fun ho => ?_
    obtain ⟨ox0, ox1, hs⟩ := ho
    generalize (Antiphonref02Reader.dec e0) = x0 at *
    generalize (Antiphonref07Command.dec e1) = x1 at *
    generalize (flagAt e1 9) = kf1 at *
    cases kf1
    all_goals
      obtain ⟨r, hr⟩ := Option.isSome_iff_exists.1 hs
      simp only [hr, Option.getD_some]
      have q := call_frame (M := M) [] (gRef07Parts.can x0 x1 _ r hr) (by simp) rfl (by intro k i hk; simp at hk)
      exact callOk_conv q trivial (by simp; exact ⟨ox0, ox1⟩) (by simp [frameOut, gRef07Parts.out]) (by simp [frameOut, gRef07Parts.out])
  · cases h

@[simp] def gRef07Parse.out (_x0 : ByteArray) (r : Antiphonref07Command × Int) : Out := { av := .tup [.agg [.lit (.int .i64 r.1.fKind), .lit (.string r.1.fRoom), .lit (.string r.1.fName), .lit (.int .i64 r.1.fPeer), .lit (.int .i64 r.1.fOf), .lit (.int .i64 r.1.fTrack), .lit (.int .i64 r.1.fLayer), .lit (.bool r.1.fOn), .lit (.bool r.1.fVideo), .sl (r.1.fSsrcs.map (eNum .u32)) .no], .lit (.int .i64 r.2)], M := none }
def gRef07Parse.fin (x0 : ByteArray) (r : Antiphonref07Command × Int) (σ : St) : Prop := finK (gRef07Parse.out x0 r) [] σ.M (resA Tryd.ty σ.A σ.M Tryd.f10.results.toList)
set_option maxHeartbeats 4000000 in
set_option maxRecDepth 100000 in
theorem gRef07Parse.can (x0 : ByteArray) (r : Antiphonref07Command × Int) (hr : gRef07Parse x0 = some r) : CallOk Tryd.prog 10 [.lit (.string x0)] [] (gRef07Parse.out x0 r) := by
  unfold gRef07Parse at hr
  have hΓ := (gamL_cons gRef02End.ok (gamL_cons gRef02Take.ok (gamL_cons gRef07Check.ok (gamL_cons gRef07Parts.ok (gamL_nil)))) : GamOk Tryd.prog _)
  refine call_of_awp Tryd.tyOk Tryd.func10 rfl (by kernel_rfl) rfl rfl (by simp) ?_
  intro _ _ _
  refine AWp.then ⟨[⟨2, none, .ptr 0 0⟩, ⟨0, none, .lit (.string x0)⟩], [.blk [.lit (.int .i64 0), .lit (.string ⟨#[]⟩), .lit (.string ⟨#[]⟩), .lit (.int .i64 0), .lit (.int .i64 0), .lit (.int .i64 0), .lit (.int .i64 0), .lit (.bool false), .lit (.bool false), .sl [] .full]]⟩ (AWp.reg Tryd.tyOk hΓ (keep := [2]) (dead := []) (by kernel_rfl) rfl (by simp)) ?_
  obtain ⟨r1, h9, hr⟩ := bind_some' hr
  refine AWp.then ⟨[⟨4, none, .ptr 1 0⟩, ⟨5, none, .lit (.int .u64 r1.2)⟩, ⟨2, none, .ptr 0 0⟩], [.blk [.lit (.int .i64 0), .lit (.string ⟨#[]⟩), .lit (.string ⟨#[]⟩), .lit (.int .i64 0), .lit (.int .i64 0), .lit (.int .i64 0), .lit (.int .i64 0), .lit (.bool false), .lit (.bool false), .sl [] .full], .blk r1.1.enc]⟩ (AWp.reg Tryd.tyOk hΓ (keep := [4, 5]) (dead := [0]) (by kernel_rfl) rfl (by simp [h9])) ?_
  refine AWp.seq ?_
  refine AWp.then ⟨[⟨16, none, .lit (.bool (neI r1.1.fE 0))⟩, ⟨4, none, .ptr 1 0⟩, ⟨5, none, .lit (.int .u64 r1.2)⟩, ⟨2, none, .ptr 0 0⟩], [.blk [.lit (.int .i64 0), .lit (.string ⟨#[]⟩), .lit (.string ⟨#[]⟩), .lit (.int .i64 0), .lit (.int .i64 0), .lit (.int .i64 0), .lit (.int .i64 0), .lit (.bool false), .lit (.bool false), .sl [] .full], .blk r1.1.enc]⟩ (AWp.reg Tryd.tyOk hΓ (keep := [16]) (dead := []) (by kernel_rfl) rfl (by simp)) ?_
  refine AWp.cond (b := (neI r1.1.fE 0)) (by simp) (fun h10 => ?_) (fun h10 => ?_)
  · have hr := cond_t h10 hr
    refine AWp.then ⟨[⟨3, none, .lit (.int .i64 r1.1.fE)⟩, ⟨2, none, .ptr 0 0⟩], [.blk [.lit (.int .i64 0), .lit (.string ⟨#[]⟩), .lit (.string ⟨#[]⟩), .lit (.int .i64 0), .lit (.int .i64 0), .lit (.int .i64 0), .lit (.int .i64 0), .lit (.bool false), .lit (.bool false), .sl [] .full], .blk r1.1.enc]⟩ (AWp.regD Tryd.mixed Tryd.tyOk hΓ (keep := [3]) (dead := [16, 4, 5]) [(1, 4), (2, 4)] [(false, []), (false, []), (false, []), (true, []), (false, [])] (by kernel_rfl) rfl (by simp [h10])) ?_
    refine AWp.ret ?_
    obtain rfl := some_inj hr
    refine fin_ret ?_
    simp
  · have hr := cond_f h10 hr
    refine AWp.skip ?_
    refine AWp.seq ?_
    refine AWp.then ⟨[⟨25, none, .lit (.bool (pickB (ltI r1.2 1) true (ltI 8 r1.2)))⟩, ⟨4, none, .ptr 1 0⟩, ⟨5, none, .lit (.int .u64 r1.2)⟩, ⟨2, none, .ptr 0 0⟩], [.blk [.lit (.int .i64 0), .lit (.string ⟨#[]⟩), .lit (.string ⟨#[]⟩), .lit (.int .i64 0), .lit (.int .i64 0), .lit (.int .i64 0), .lit (.int .i64 0), .lit (.bool false), .lit (.bool false), .sl [] .full], .blk r1.1.enc]⟩ (AWp.reg Tryd.tyOk hΓ (keep := [25]) (dead := [16]) (by kernel_rfl) rfl (by simp [h10])) ?_
    refine AWp.cond (b := (pickB (ltI r1.2 1) true (ltI 8 r1.2))) (by simp) (fun h11 => ?_) (fun h11 => ?_)
    · have hr := cond_t h11 hr
      refine AWp.then ⟨[⟨3, none, .lit (.int .i64 3)⟩, ⟨2, none, .ptr 0 0⟩], [.blk [.lit (.int .i64 0), .lit (.string ⟨#[]⟩), .lit (.string ⟨#[]⟩), .lit (.int .i64 0), .lit (.int .i64 0), .lit (.int .i64 0), .lit (.int .i64 0), .lit (.bool false), .lit (.bool false), .sl [] .full], .blk r1.1.enc]⟩ (AWp.reg Tryd.tyOk hΓ (keep := [3]) (dead := [25, 4, 5]) (by kernel_rfl) rfl (by simp [h11])) ?_
      refine AWp.ret ?_
      obtain rfl := some_inj hr
      refine fin_ret ?_
      simp
    · have hr := cond_f h11 hr
      refine AWp.skip ?_
      obtain ⟨r2, h12, hr⟩ := bind_some' hr
      refine AWp.then ⟨[⟨6, none, .ptr 2 0⟩, ⟨7, none, .ptr 3 0⟩, ⟨2, none, .ptr 0 0⟩], [.blk [.lit (.int .i64 0), .lit (.string ⟨#[]⟩), .lit (.string ⟨#[]⟩), .lit (.int .i64 0), .lit (.int .i64 0), .lit (.int .i64 0), .lit (.int .i64 0), .lit (.bool false), .lit (.bool false), .sl [] .full], .blk r1.1.enc, .blk r2.1.enc, .blk r2.2.enc]⟩ (AWp.reg Tryd.tyOk hΓ (keep := [6, 7]) (dead := [25, 4, 5]) (by kernel_rfl) rfl (by simp [h11, h12])) ?_
      refine AWp.seq ?_
      obtain ⟨r3, h13, hr⟩ := bind_some' hr
      refine AWp.then ⟨[⟨37, none, .lit (.bool (neI r3 0))⟩, ⟨6, none, .ptr 2 0⟩, ⟨7, none, .ptr 3 0⟩, ⟨2, none, .ptr 0 0⟩], [.blk [.lit (.int .i64 0), .lit (.string ⟨#[]⟩), .lit (.string ⟨#[]⟩), .lit (.int .i64 0), .lit (.int .i64 0), .lit (.int .i64 0), .lit (.int .i64 0), .lit (.bool false), .lit (.bool false), .sl [] .full], .blk r1.1.enc, .blk r2.1.enc, .blk r2.2.enc]⟩ (AWp.reg Tryd.tyOk hΓ (keep := [37]) (dead := []) (by kernel_rfl) rfl (by simp [h13])) ?_
      refine AWp.cond (b := (neI r3 0)) (by simp) (fun h14 => ?_) (fun h14 => ?_)
      · have hr := cond_t h14 hr
        refine AWp.then ⟨[⟨3, none, .lit (.int .i64 r3)⟩, ⟨2, none, .ptr 0 0⟩], [.blk [.lit (.int .i64 0), .lit (.string ⟨#[]⟩), .lit (.string ⟨#[]⟩), .lit (.int .i64 0), .lit (.int .i64 0), .lit (.int .i64 0), .lit (.int .i64 0), .lit (.bool false), .lit (.bool false), .sl [] .full], .blk r1.1.enc, .blk r2.1.enc, .blk r2.2.enc]⟩ (AWp.reg Tryd.tyOk hΓ (keep := [3]) (dead := [37, 6, 7]) (by kernel_rfl) rfl (by simp [h13, h14])) ?_
        refine AWp.ret ?_
        obtain rfl := some_inj hr
        refine fin_ret ?_
        simp
      · have hr := cond_f h14 hr
        refine AWp.skip ?_
        refine AWp.seq ?_
        obtain ⟨r4, h15, hr⟩ := bind_some' hr
        refine AWp.then ⟨[⟨43, none, .lit (.bool (neI r4 0))⟩, ⟨7, none, .ptr 3 0⟩, ⟨2, none, .ptr 0 0⟩], [.blk [.lit (.int .i64 0), .lit (.string ⟨#[]⟩), .lit (.string ⟨#[]⟩), .lit (.int .i64 0), .lit (.int .i64 0), .lit (.int .i64 0), .lit (.int .i64 0), .lit (.bool false), .lit (.bool false), .sl [] .full], .blk r1.1.enc, .blk r2.1.enc, .blk r2.2.enc]⟩ (AWp.reg Tryd.tyOk hΓ (keep := [43]) (dead := [37, 6]) (by kernel_rfl) rfl (by simp [h14, h15])) ?_
        refine AWp.cond (b := (neI r4 0)) (by simp) (fun h16 => ?_) (fun h16 => ?_)
        · have hr := cond_t h16 hr
          refine AWp.then ⟨[⟨3, none, .lit (.int .i64 r4)⟩, ⟨2, none, .ptr 0 0⟩], [.blk [.lit (.int .i64 0), .lit (.string ⟨#[]⟩), .lit (.string ⟨#[]⟩), .lit (.int .i64 0), .lit (.int .i64 0), .lit (.int .i64 0), .lit (.int .i64 0), .lit (.bool false), .lit (.bool false), .sl [] .full], .blk r1.1.enc, .blk r2.1.enc, .blk r2.2.enc]⟩ (AWp.reg Tryd.tyOk hΓ (keep := [3]) (dead := [43, 7]) (by kernel_rfl) rfl (by simp [h15, h16])) ?_
          refine AWp.ret ?_
          obtain rfl := some_inj hr
          refine fin_ret ?_
          simp
        · have hr := cond_f h16 hr
          refine AWp.skip ?_
          refine AWp.then ⟨[⟨3, none, .lit (.int .i64 0)⟩, ⟨2, none, .ptr 0 0⟩], [.blk r2.2.enc, .blk r1.1.enc, .blk r2.1.enc, .blk r2.2.enc]⟩ (AWp.reg Tryd.tyOk hΓ (keep := [3]) (dead := [43, 7]) (by kernel_rfl) rfl (by simp [h16])) ?_
          refine AWp.ret ?_
          obtain rfl := some_inj hr
          refine fin_ret ?_
          simp

@[simp] noncomputable def gRef07Parse.S : Sp
  | [.lit (.string x0)], _ => (fun (r : Antiphonref07Command × Int) => some { av := .tup [.agg [.lit (.int .i64 (r.1.fKind)), .lit (.string (r.1.fRoom)), .lit (.string (r.1.fName)), .lit (.int .i64 (r.1.fPeer)), .lit (.int .i64 (r.1.fOf)), .lit (.int .i64 (r.1.fTrack)), .lit (.int .i64 (r.1.fLayer)), .lit (.bool (r.1.fOn)), .lit (.bool (r.1.fVideo)), .sl ((r.1.fSsrcs).map (eNum .u32)) .no], .lit (.int .i64 (r.2))], M := none, obl := (gRef07Parse x0).isSome = true }) ((gRef07Parse x0).getD dflt)
  | _, _ => none

set_option maxHeartbeats 1000000 in
theorem gRef07Parse.ok : SpecOk Tryd.prog 10 gRef07Parse.S := by
  intro l M out h
  unfold gRef07Parse.S at h
  split at h
  · rename_i x0
    try dsimp only at h
    cases h
    refine callOk_of fun ho => ?_
    have hs := ho
    obtain ⟨r, hr⟩ := Option.isSome_iff_exists.1 hs
    simp only [hr, Option.getD_some]
    have q := call_frame (M := M) [] (gRef07Parse.can x0 r hr) (by simp) rfl (by intro k i hk; simp at hk)
    exact callOk_conv q trivial (by simp) (by simp [frameOut, gRef07Parse.out]) (by simp [frameOut, gRef07Parse.out])
  · cases h
end Go.Proofs

/- That these functions compute what their plain functions do. No condition. -/
import Derived.Test.YtijaigjfacfhnaaDoorM06
import Derived.Test.YtijaigjfacfhnaaDoorTy
import Derived.Test.YtijaigjfacfhnaaDoorM02
import Derived.Test.YtijaigjfacfhnaaDoorOx
import Derived.Test.YtijaigjfacfhnaaDoorCa
namespace Go.Proofs
open Go.Ab
@[simp] def gControlTruth.out (_x0 : OctetReader) (r : Bool × OctetReader) : Out := { av := .lit (.bool r.1), M := some [.blk [.lit (.string r.2.fS), .lit (.int .i64 r.2.fE)]] }
def gControlTruth.fin (x0 : OctetReader) (r : Bool × OctetReader) (σ : St) : Prop := finK (gControlTruth.out x0 r) [.blk x0.enc] σ.M (resA Tryd.ty σ.A σ.M Tryd.f50.results.toList)
set_option maxHeartbeats 4000000 in
set_option maxRecDepth 100000 in
theorem gControlTruth.can (x0 : OctetReader) (r : Bool × OctetReader) (hr : gControlTruth x0 = some r) : CallOk Tryd.prog 50 [.ptr 0 0] [.blk x0.enc] (gControlTruth.out x0 r) := by
  unfold gControlTruth at hr
  have hΓ := (gamL_cons gOctetReaderFail.ok (gamL_cons gOctetReaderU8.ok (gamL_nil)) : GamOk Tryd.prog _)
  refine call_of_awp Tryd.tyOk Tryd.func50 rfl (by kernel_rfl) rfl rfl (by simp) ?_
  intro _ _ _
  refine AWp.then ⟨[⟨0, none, .ptr 0 0⟩], [.blk x0.enc]⟩ (AWp.reg Tryd.tyOk hΓ (keep := []) (dead := []) (by kernel_rfl) rfl (by simp)) ?_
  obtain ⟨r1, h4, hr⟩ := bind_some' hr
  refine AWp.then ⟨[⟨3, none, .lit (.int .u8 r1.1)⟩, ⟨0, none, .ptr 0 0⟩], [.blk r1.2.enc]⟩ (AWp.reg Tryd.tyOk hΓ (keep := [3]) (dead := []) (by kernel_rfl) rfl (by simp [h4])) ?_
  refine AWp.meetF (fun (v1 : OctetReader) (γ1 : Unit) => ⟨[⟨3, none, .lit (.int .u8 r1.1)⟩], [.blk v1.enc]⟩) (gControlTruth.fin x0) hr (fun f hr => ?_) (fun v1 γ1 hr => ?_) (fun _ h => h)
  · refine AWp.then ⟨[⟨7, none, .lit (.bool (ltI 1 r1.1))⟩, ⟨3, none, .lit (.int .u8 r1.1)⟩, ⟨0, none, .ptr 0 0⟩], [.blk r1.2.enc]⟩ (AWp.reg Tryd.tyOk hΓ (keep := [7]) (dead := []) (by kernel_rfl) rfl (by simp)) ?_
    refine AWp.cond (b := (ltI 1 r1.1)) (by simp) (fun h5 => ?_) (fun h5 => ?_)
    · have hr := cond_t h5 hr
      obtain ⟨r2, h6, hr⟩ := bind_some' hr
      refine AWp.last ⟨[⟨3, none, .lit (.int .u8 r1.1)⟩], [.blk r2.enc]⟩ (AWp.reg Tryd.tyOk hΓ (keep := []) (dead := [7, 0]) (by kernel_rfl) rfl (by simp [h5, h6])) ?_
      obtain rfl := some_inj hr
      exact meet_go () 1 (by first | (simp; done) | simp [h4, h5, h6])
    · have hr := cond_f h5 hr
      refine AWp.skip ?_
      obtain rfl := some_inj hr
      exact meet_go () 1 (by first | (simp; done) | simp [h4, h5])
  · refine AWp.then ⟨[⟨2, none, .lit (.bool (eqI r1.1 1))⟩], [.blk v1.enc]⟩ (AWp.reg Tryd.tyOk hΓ (keep := [2]) (dead := [3]) (by kernel_rfl) rfl (by simp)) ?_
    refine AWp.ret ?_
    obtain rfl := some_inj hr
    refine fin_ret ?_
    simp

@[simp] noncomputable def gControlTruth.S : Sp
  | [.ptr i0 0], M => match M[i0]? with
    | some (.blk c0) => some { av := .lit (.bool (((gControlTruth (OctetReader.dec c0)).getD dflt).1)), M := some (M.set i0 (.blk [.lit (.string (((gControlTruth (OctetReader.dec c0)).getD dflt).2.fS)), .lit (.int .i64 (((gControlTruth (OctetReader.dec c0)).getD dflt).2.fE))])), obl := c0 = OctetReader.enc (OctetReader.dec c0) ∧ (gControlTruth (OctetReader.dec c0)).isSome = true }
    | _ => none
  | _, _ => none

set_option maxHeartbeats 1000000 in
theorem gControlTruth.ok : SpecOk Tryd.prog 50 gControlTruth.S := by
  intro l M out h
  unfold gControlTruth.S at h
  split at h
  · rename_i i0
    split at h
    case h_2 => cases h
    rename_i c0 hM0
    cases h
    refine callOk_of fun ho => ?_
    obtain ⟨oc0, hs⟩ := ho
    generalize (OctetReader.dec c0) = y0 at *
    subst oc0
    obtain ⟨r, hr⟩ := Option.isSome_iff_exists.1 hs
    simp only [hr, Option.getD_some]
    have q := call_frame (M := M) [i0] (gControlTruth.can y0 r hr) (by simp) rfl (by intro k i hk; (cases k with | zero => (simp at hk; subst hk; simp [hM0]) | succ k => (simp at hk)))
    exact callOk_conv q trivial (by simp [into]) (by simp [frameOut, gControlTruth.out]) (by simp [frameOut, gControlTruth.out])
  · cases h

@[simp] def gControlCommandTake.out (_x0 : Antiphonref07Command) (_k0 : Bool) (_x1 : OctetReader) (_x2 : Int) (r : Antiphonref07Command × Bool × OctetReader) : Out := { av := .tup [], M := some [.blk [.lit (.int .i64 r.1.fKind), .lit (.string r.1.fRoom), .lit (.string r.1.fName), .lit (.int .i64 r.1.fPeer), .lit (.int .i64 r.1.fOf), .lit (.int .i64 r.1.fTrack), .lit (.int .i64 r.1.fLayer), .lit (.bool r.1.fOn), .lit (.bool r.1.fVideo), .sl (r.1.fSsrcs.map (eNum .u32)) (tokB r.2.1)], .blk [.lit (.string r.2.2.fS), .lit (.int .i64 r.2.2.fE)]] }
def gControlCommandTake.fin (x0 : Antiphonref07Command) (k0 : Bool) (x1 : OctetReader) (x2 : Int) (r : Antiphonref07Command × Bool × OctetReader) (σ : St) : Prop := finK (gControlCommandTake.out x0 k0 x1 x2 r) [.blk [.lit (.int .i64 x0.fKind), .lit (.string x0.fRoom), .lit (.string x0.fName), .lit (.int .i64 x0.fPeer), .lit (.int .i64 x0.fOf), .lit (.int .i64 x0.fTrack), .lit (.int .i64 x0.fLayer), .lit (.bool x0.fOn), .lit (.bool x0.fVideo), .sl (x0.fSsrcs.map (eNum .u32)) (tokB k0)], .blk x1.enc] σ.M (resA Tryd.ty σ.A σ.M Tryd.f24.results.toList)
set_option maxHeartbeats 4000000 in
set_option maxRecDepth 100000 in
theorem gControlCommandTake.can (x0 : Antiphonref07Command) (k0 : Bool) (x1 : OctetReader) (x2 : Int) (r : Antiphonref07Command × Bool × OctetReader) (hr : gControlCommandTake x0 k0 x1 x2 = some r) : CallOk Tryd.prog 24 [.ptr 0 0, .ptr 1 0, .lit (.int .i32 x2)] [.blk [.lit (.int .i64 x0.fKind), .lit (.string x0.fRoom), .lit (.string x0.fName), .lit (.int .i64 x0.fPeer), .lit (.int .i64 x0.fOf), .lit (.int .i64 x0.fTrack), .lit (.int .i64 x0.fLayer), .lit (.bool x0.fOn), .lit (.bool x0.fVideo), .sl (x0.fSsrcs.map (eNum .u32)) (tokB k0)], .blk x1.enc] (gControlCommandTake.out x0 k0 x1 x2 r) := by
  unfold gControlCommandTake at hr
  have hΓ := (gamL_cons gOctetReaderBytes.ok (gamL_cons gOctetReaderU16.ok (gamL_cons gOctetReaderU32.ok (gamL_cons gOctetReaderU8.ok (gamL_cons gControlTruth.ok (gamL_nil))))) : GamOk Tryd.prog _)
  refine call_of_awp Tryd.tyOk Tryd.func24 rfl (by kernel_rfl) rfl rfl (by simp) ?_
  intro _ _ _
  refine AWp.then ⟨[⟨6, none, .lit (.int .i32 x2)⟩, ⟨0, none, .ptr 0 0⟩, ⟨1, none, .ptr 1 0⟩], [.blk [.lit (.int .i64 x0.fKind), .lit (.string x0.fRoom), .lit (.string x0.fName), .lit (.int .i64 x0.fPeer), .lit (.int .i64 x0.fOf), .lit (.int .i64 x0.fTrack), .lit (.int .i64 x0.fLayer), .lit (.bool x0.fOn), .lit (.bool x0.fVideo), .sl (x0.fSsrcs.map (eNum .u32)) (tokB k0)], .blk x1.enc]⟩ (AWp.reg Tryd.tyOk hΓ (keep := [6]) (dead := [2]) (by kernel_rfl) rfl (by simp)) ?_
  refine AWp.block ?_
  refine AWp.then ⟨[⟨7, none, .lit (.bool (eqI x2 114))⟩, ⟨6, none, .lit (.int .i32 x2)⟩, ⟨0, none, .ptr 0 0⟩, ⟨1, none, .ptr 1 0⟩], [.blk [.lit (.int .i64 x0.fKind), .lit (.string x0.fRoom), .lit (.string x0.fName), .lit (.int .i64 x0.fPeer), .lit (.int .i64 x0.fOf), .lit (.int .i64 x0.fTrack), .lit (.int .i64 x0.fLayer), .lit (.bool x0.fOn), .lit (.bool x0.fVideo), .sl (x0.fSsrcs.map (eNum .u32)) (tokB k0)], .blk x1.enc]⟩ (AWp.reg Tryd.tyOk hΓ (keep := [7]) (dead := []) (by kernel_rfl) rfl (by simp)) ?_
  refine AWp.cond (b := (eqI x2 114)) (by simp) (fun h23 => ?_) (fun h23 => ?_)
  · have hr := cond_t h23 hr
    obtain ⟨r1, h24, hr⟩ := bind_some' hr
    obtain ⟨r2, h25, hr⟩ := bind_some' hr
    refine AWp.then ⟨[⟨0, none, .ptr 0 0⟩, ⟨1, none, .ptr 1 0⟩], [.blk [.lit (.int .i64 x0.fKind), .lit (.string r2.1), .lit (.string x0.fName), .lit (.int .i64 x0.fPeer), .lit (.int .i64 x0.fOf), .lit (.int .i64 x0.fTrack), .lit (.int .i64 x0.fLayer), .lit (.bool x0.fOn), .lit (.bool x0.fVideo), .sl (x0.fSsrcs.map (eNum .u32)) (tokB k0)], .blk r2.2.enc]⟩ (AWp.reg Tryd.tyOk hΓ (keep := []) (dead := [7, 6]) (by kernel_rfl) rfl (by simp [h23, h24, h25])) ?_
    obtain ⟨r3, h26, hr⟩ := bind_some' hr
    obtain ⟨r4, h27, hr⟩ := bind_some' hr
    refine AWp.last ⟨[], [.blk [.lit (.int .i64 x0.fKind), .lit (.string r2.1), .lit (.string r4.1), .lit (.int .i64 x0.fPeer), .lit (.int .i64 x0.fOf), .lit (.int .i64 x0.fTrack), .lit (.int .i64 x0.fLayer), .lit (.bool x0.fOn), .lit (.bool x0.fVideo), .sl (x0.fSsrcs.map (eNum .u32)) (tokB k0)], .blk r4.2.enc]⟩ (AWp.reg Tryd.tyOk hΓ (keep := []) (dead := [0, 1]) (by kernel_rfl) rfl (by simp [h26, h27])) ?_
    obtain rfl := some_inj hr
    refine fin_norm ?_
    simp
  · have hr := cond_f h23 hr
    refine AWp.then ⟨[⟨25, none, .lit (.bool (eqI x2 112))⟩, ⟨6, none, .lit (.int .i32 x2)⟩, ⟨0, none, .ptr 0 0⟩, ⟨1, none, .ptr 1 0⟩], [.blk [.lit (.int .i64 x0.fKind), .lit (.string x0.fRoom), .lit (.string x0.fName), .lit (.int .i64 x0.fPeer), .lit (.int .i64 x0.fOf), .lit (.int .i64 x0.fTrack), .lit (.int .i64 x0.fLayer), .lit (.bool x0.fOn), .lit (.bool x0.fVideo), .sl (x0.fSsrcs.map (eNum .u32)) (tokB k0)], .blk x1.enc]⟩ (AWp.reg Tryd.tyOk hΓ (keep := [25]) (dead := [7]) (by kernel_rfl) rfl (by simp [h23])) ?_
    refine AWp.cond (b := (eqI x2 112)) (by simp) (fun h28 => ?_) (fun h28 => ?_)
    · have hr := cond_t h28 hr
      obtain ⟨r5, h29, hr⟩ := bind_some' hr
      refine AWp.last ⟨[], [.blk [.lit (.int .i64 x0.fKind), .lit (.string x0.fRoom), .lit (.string x0.fName), .lit (.int .i64 (cvtI .i64 r5.1)), .lit (.int .i64 x0.fOf), .lit (.int .i64 x0.fTrack), .lit (.int .i64 x0.fLayer), .lit (.bool x0.fOn), .lit (.bool x0.fVideo), .sl (x0.fSsrcs.map (eNum .u32)) (tokB k0)], .blk r5.2.enc]⟩ (AWp.reg Tryd.tyOk hΓ (keep := []) (dead := [25, 6, 0, 1]) (by kernel_rfl) rfl (by simp [h28, h29])) ?_
      obtain rfl := some_inj hr
      refine fin_norm ?_
      simp
    · have hr := cond_f h28 hr
      refine AWp.then ⟨[⟨33, none, .lit (.bool (eqI x2 111))⟩, ⟨6, none, .lit (.int .i32 x2)⟩, ⟨0, none, .ptr 0 0⟩, ⟨1, none, .ptr 1 0⟩], [.blk [.lit (.int .i64 x0.fKind), .lit (.string x0.fRoom), .lit (.string x0.fName), .lit (.int .i64 x0.fPeer), .lit (.int .i64 x0.fOf), .lit (.int .i64 x0.fTrack), .lit (.int .i64 x0.fLayer), .lit (.bool x0.fOn), .lit (.bool x0.fVideo), .sl (x0.fSsrcs.map (eNum .u32)) (tokB k0)], .blk x1.enc]⟩ (AWp.reg Tryd.tyOk hΓ (keep := [33]) (dead := [25]) (by kernel_rfl) rfl (by simp [h28])) ?_
      refine AWp.cond (b := (eqI x2 111)) (by simp) (fun h30 => ?_) (fun h30 => ?_)
      · have hr := cond_t h30 hr
        obtain ⟨r6, h31, hr⟩ := bind_some' hr
        refine AWp.last ⟨[], [.blk [.lit (.int .i64 x0.fKind), .lit (.string x0.fRoom), .lit (.string x0.fName), .lit (.int .i64 x0.fPeer), .lit (.int .i64 (cvtI .i64 r6.1)), .lit (.int .i64 x0.fTrack), .lit (.int .i64 x0.fLayer), .lit (.bool x0.fOn), .lit (.bool x0.fVideo), .sl (x0.fSsrcs.map (eNum .u32)) (tokB k0)], .blk r6.2.enc]⟩ (AWp.reg Tryd.tyOk hΓ (keep := []) (dead := [33, 6, 0, 1]) (by kernel_rfl) rfl (by simp [h30, h31])) ?_
        obtain rfl := some_inj hr
        refine fin_norm ?_
        simp
      · have hr := cond_f h30 hr
        refine AWp.then ⟨[⟨41, none, .lit (.bool (eqI x2 116))⟩, ⟨6, none, .lit (.int .i32 x2)⟩, ⟨0, none, .ptr 0 0⟩, ⟨1, none, .ptr 1 0⟩], [.blk [.lit (.int .i64 x0.fKind), .lit (.string x0.fRoom), .lit (.string x0.fName), .lit (.int .i64 x0.fPeer), .lit (.int .i64 x0.fOf), .lit (.int .i64 x0.fTrack), .lit (.int .i64 x0.fLayer), .lit (.bool x0.fOn), .lit (.bool x0.fVideo), .sl (x0.fSsrcs.map (eNum .u32)) (tokB k0)], .blk x1.enc]⟩ (AWp.reg Tryd.tyOk hΓ (keep := [41]) (dead := [33]) (by kernel_rfl) rfl (by simp [h30])) ?_
        refine AWp.cond (b := (eqI x2 116)) (by simp) (fun h32 => ?_) (fun h32 => ?_)
        · have hr := cond_t h32 hr
          obtain ⟨r7, h33, hr⟩ := bind_some' hr
          refine AWp.last ⟨[], [.blk [.lit (.int .i64 x0.fKind), .lit (.string x0.fRoom), .lit (.string x0.fName), .lit (.int .i64 x0.fPeer), .lit (.int .i64 x0.fOf), .lit (.int .i64 (cvtI .i64 r7.1)), .lit (.int .i64 x0.fLayer), .lit (.bool x0.fOn), .lit (.bool x0.fVideo), .sl (x0.fSsrcs.map (eNum .u32)) (tokB k0)], .blk r7.2.enc]⟩ (AWp.reg Tryd.tyOk hΓ (keep := []) (dead := [41, 6, 0, 1]) (by kernel_rfl) rfl (by simp [h32, h33])) ?_
          obtain rfl := some_inj hr
          refine fin_norm ?_
          simp
        · have hr := cond_f h32 hr
          refine AWp.then ⟨[⟨49, none, .lit (.bool (eqI x2 108))⟩, ⟨6, none, .lit (.int .i32 x2)⟩, ⟨0, none, .ptr 0 0⟩, ⟨1, none, .ptr 1 0⟩], [.blk [.lit (.int .i64 x0.fKind), .lit (.string x0.fRoom), .lit (.string x0.fName), .lit (.int .i64 x0.fPeer), .lit (.int .i64 x0.fOf), .lit (.int .i64 x0.fTrack), .lit (.int .i64 x0.fLayer), .lit (.bool x0.fOn), .lit (.bool x0.fVideo), .sl (x0.fSsrcs.map (eNum .u32)) (tokB k0)], .blk x1.enc]⟩ (AWp.reg Tryd.tyOk hΓ (keep := [49]) (dead := [41]) (by kernel_rfl) rfl (by simp [h32])) ?_
          refine AWp.cond (b := (eqI x2 108)) (by simp) (fun h34 => ?_) (fun h34 => ?_)
          · have hr := cond_t h34 hr
            obtain ⟨r8, h35, hr⟩ := bind_some' hr
            refine AWp.last ⟨[], [.blk [.lit (.int .i64 x0.fKind), .lit (.string x0.fRoom), .lit (.string x0.fName), .lit (.int .i64 x0.fPeer), .lit (.int .i64 x0.fOf), .lit (.int .i64 x0.fTrack), .lit (.int .i64 (cvtI .i64 r8.1)), .lit (.bool x0.fOn), .lit (.bool x0.fVideo), .sl (x0.fSsrcs.map (eNum .u32)) (tokB k0)], .blk r8.2.enc]⟩ (AWp.reg Tryd.tyOk hΓ (keep := []) (dead := [49, 6, 0, 1]) (by kernel_rfl) rfl (by simp [h34, h35])) ?_
            obtain rfl := some_inj hr
            refine fin_norm ?_
            simp
          · have hr := cond_f h34 hr
            refine AWp.then ⟨[⟨57, none, .lit (.bool (eqI x2 98))⟩, ⟨6, none, .lit (.int .i32 x2)⟩, ⟨0, none, .ptr 0 0⟩, ⟨1, none, .ptr 1 0⟩], [.blk [.lit (.int .i64 x0.fKind), .lit (.string x0.fRoom), .lit (.string x0.fName), .lit (.int .i64 x0.fPeer), .lit (.int .i64 x0.fOf), .lit (.int .i64 x0.fTrack), .lit (.int .i64 x0.fLayer), .lit (.bool x0.fOn), .lit (.bool x0.fVideo), .sl (x0.fSsrcs.map (eNum .u32)) (tokB k0)], .blk x1.enc]⟩ (AWp.reg Tryd.tyOk hΓ (keep := [57]) (dead := [49]) (by kernel_rfl) rfl (by simp [h34])) ?_
            refine AWp.cond (b := (eqI x2 98)) (by simp) (fun h36 => ?_) (fun h36 => ?_)
            · have hr := cond_t h36 hr
              obtain ⟨r9, h37, hr⟩ := bind_some' hr
              refine AWp.last ⟨[], [.blk [.lit (.int .i64 x0.fKind), .lit (.string x0.fRoom), .lit (.string x0.fName), .lit (.int .i64 x0.fPeer), .lit (.int .i64 x0.fOf), .lit (.int .i64 x0.fTrack), .lit (.int .i64 x0.fLayer), .lit (.bool r9.1), .lit (.bool x0.fVideo), .sl (x0.fSsrcs.map (eNum .u32)) (tokB k0)], .blk r9.2.enc]⟩ (AWp.reg Tryd.tyOk hΓ (keep := []) (dead := [57, 6, 0, 1]) (by kernel_rfl) rfl (by simp [h36, h37])) ?_
              obtain rfl := some_inj hr
              refine fin_norm ?_
              simp
            · have hr := cond_f h36 hr
              refine AWp.then ⟨[⟨64, none, .lit (.bool (eqI x2 115))⟩, ⟨0, none, .ptr 0 0⟩, ⟨1, none, .ptr 1 0⟩], [.blk [.lit (.int .i64 x0.fKind), .lit (.string x0.fRoom), .lit (.string x0.fName), .lit (.int .i64 x0.fPeer), .lit (.int .i64 x0.fOf), .lit (.int .i64 x0.fTrack), .lit (.int .i64 x0.fLayer), .lit (.bool x0.fOn), .lit (.bool x0.fVideo), .sl (x0.fSsrcs.map (eNum .u32)) (tokB k0)], .blk x1.enc]⟩ (AWp.reg Tryd.tyOk hΓ (keep := [64]) (dead := [57, 6]) (by kernel_rfl) rfl (by simp [h36])) ?_
              refine AWp.cond (b := (eqI x2 115)) (by simp) (fun h38 => ?_) (fun h38 => ?_)
              · have hr := cond_t h38 hr
                obtain ⟨r10, h39, hr⟩ := bind_some' hr
                refine AWp.then ⟨[⟨0, none, .ptr 0 0⟩, ⟨1, none, .ptr 1 0⟩], [.blk [.lit (.int .i64 x0.fKind), .lit (.string x0.fRoom), .lit (.string x0.fName), .lit (.int .i64 x0.fPeer), .lit (.int .i64 x0.fOf), .lit (.int .i64 x0.fTrack), .lit (.int .i64 x0.fLayer), .lit (.bool x0.fOn), .lit (.bool r10.1), .sl (x0.fSsrcs.map (eNum .u32)) (tokB k0)], .blk r10.2.enc]⟩ (AWp.reg Tryd.tyOk hΓ (keep := []) (dead := [64]) (by kernel_rfl) rfl (by simp [h38, h39])) ?_
                obtain ⟨r11, h40, hr⟩ := bind_some' hr
                refine AWp.then ⟨[⟨72, none, .lit (.int .u8 r11.1)⟩, ⟨73, none, .lit (.int .u8 0)⟩, ⟨0, none, .ptr 0 0⟩, ⟨1, none, .ptr 1 0⟩], [.blk [.lit (.int .i64 x0.fKind), .lit (.string x0.fRoom), .lit (.string x0.fName), .lit (.int .i64 x0.fPeer), .lit (.int .i64 x0.fOf), .lit (.int .i64 x0.fTrack), .lit (.int .i64 x0.fLayer), .lit (.bool x0.fOn), .lit (.bool r10.1), .sl (x0.fSsrcs.map (eNum .u32)) (tokB k0)], .blk r11.2.enc]⟩ (AWp.reg Tryd.tyOk hΓ (keep := [72, 73]) (dead := []) (by kernel_rfl) rfl (by simp [h40])) ?_
                obtain ⟨h41, hr⟩ := need_some hr
                refine AWp.equipC 0 9 1 (els := (x0.fSsrcs.map (eNum .u32))) (cells := _) rfl (by simp [h41]) (by simp) ?_
                refine AWp.loopE (fun (s1 : Int × List Int × OctetReader) (γ1 : Nat) => ⟨[⟨72, none, .lit (.int .u8 r11.1)⟩, ⟨73, none, .lit (.int .u8 s1.1)⟩, ⟨0, none, .ptr 0 0⟩, ⟨1, none, .ptr 1 0⟩], [.blk [.lit (.int .i64 x0.fKind), .lit (.string x0.fRoom), .lit (.string x0.fName), .lit (.int .i64 x0.fPeer), .lit (.int .i64 x0.fOf), .lit (.int .i64 x0.fTrack), .lit (.int .i64 x0.fLayer), .lit (.bool x0.fOn), .lit (.bool r10.1), .sl (s1.2.1.map (eNum .u32)) (.own 2 (γ1) 1)], .blk s1.2.2.enc, .room (γ1)]⟩) (fun (v1 : List Int × OctetReader) (γ1a : Nat) => ⟨[], [.blk [.lit (.int .i64 x0.fKind), .lit (.string x0.fRoom), .lit (.string x0.fName), .lit (.int .i64 x0.fPeer), .lit (.int .i64 x0.fOf), .lit (.int .i64 x0.fTrack), .lit (.int .i64 x0.fLayer), .lit (.bool x0.fOn), .lit (.bool r10.1), .sl (v1.1.map (eNum .u32)) (.own 2 (γ1a) 1)], .blk v1.2.enc, .room (γ1a)]⟩) (gControlCommandTake.fin x0 k0 x1 x2) hr 0 3 (by simp) (fun s1 f γ1 hr => ?_) (fun v1 γ1a σ1 m1 hr hc => ?_) (fun _ h => h)
                · unfold gControlCommandTake.loop1 at hr
                  refine AWp.then ⟨[⟨74, none, .lit (.bool (ltI s1.1 r11.1))⟩, ⟨72, none, .lit (.int .u8 r11.1)⟩, ⟨73, none, .lit (.int .u8 s1.1)⟩, ⟨0, none, .ptr 0 0⟩, ⟨1, none, .ptr 1 0⟩], [.blk [.lit (.int .i64 x0.fKind), .lit (.string x0.fRoom), .lit (.string x0.fName), .lit (.int .i64 x0.fPeer), .lit (.int .i64 x0.fOf), .lit (.int .i64 x0.fTrack), .lit (.int .i64 x0.fLayer), .lit (.bool x0.fOn), .lit (.bool r10.1), .sl (s1.2.1.map (eNum .u32)) (.own 2 (γ1) 1)], .blk s1.2.2.enc, .room (γ1)]⟩ (AWp.reg Tryd.tyOk hΓ (keep := [74]) (dead := []) (by kernel_rfl) rfl (by simp)) ?_
                  refine AWp.seq ?_
                  refine AWp.cond (b := (ltI s1.1 r11.1)) (by simp) (fun h42 => ?_) (fun h42 => ?_)
                  · have hr := cond_t h42 hr
                    refine AWp.skip ?_
                    refine AWp.seq ?_
                    refine AWp.block ?_
                    obtain ⟨r12, h43, hr⟩ := bind_some' hr
                    obtain ⟨h44, hr⟩ := need_some hr
                    refine AWp.last ⟨[⟨72, none, .lit (.int .u8 r11.1)⟩, ⟨73, none, .lit (.int .u8 s1.1)⟩, ⟨0, none, .ptr 0 0⟩, ⟨1, none, .ptr 1 0⟩], [.blk [.lit (.int .i64 x0.fKind), .lit (.string x0.fRoom), .lit (.string x0.fName), .lit (.int .i64 x0.fPeer), .lit (.int .i64 x0.fOf), .lit (.int .i64 x0.fTrack), .lit (.int .i64 x0.fLayer), .lit (.bool x0.fOn), .lit (.bool r10.1), .sl ((appL s1.2.1 [r12.1]).map (eNum .u32)) (.own 2 (γ1 + 1) 1)], .blk r12.2.enc, .room (γ1 + 1)]⟩ (AWp.regD Tryd.mixed Tryd.tyOk hΓ (keep := []) (dead := [74]) [(0, 7), (0, 9), (1, 7), (2, 7), (3, 7), (4, 7)] [(false, []), (false, []), (false, []), (false, []), (false, []), (false, []), (true, []), (false, []), (true, []), (false, []), (false, []), (true, [])] (by kernel_rfl) rfl (by simp [h42, h43, h44])) ?_
                    refine AWp.last ⟨[⟨73, none, .lit (.int .u8 (addI .u8 s1.1 1))⟩, ⟨72, none, .lit (.int .u8 r11.1)⟩, ⟨0, none, .ptr 0 0⟩, ⟨1, none, .ptr 1 0⟩], [.blk [.lit (.int .i64 x0.fKind), .lit (.string x0.fRoom), .lit (.string x0.fName), .lit (.int .i64 x0.fPeer), .lit (.int .i64 x0.fOf), .lit (.int .i64 x0.fTrack), .lit (.int .i64 x0.fLayer), .lit (.bool x0.fOn), .lit (.bool r10.1), .sl ((appL s1.2.1 [r12.1]).map (eNum .u32)) (.own 2 (γ1 + 1) 1)], .blk r12.2.enc, .room (γ1 + 1)]⟩ (AWp.reg Tryd.tyOk hΓ (keep := [73]) (dead := []) (by kernel_rfl) rfl (by simp)) ?_
                    obtain rfl := some_inj hr
                    exact round_go (γ1 + 1) 3 (by first | (simp; done) | simp [h23, h28, h30, h32, h34, h36, h38, h39, h40, h41, h42, h43, h44])
                  · have hr := cond_f h42 hr
                    refine AWp.exit ?_
                    obtain rfl := some_inj hr
                    exact round_out (γ1) 3 (by first | (simp; done) | simp [h23, h28, h30, h32, h34, h36, h38, h39, h40, h41, h42])
                · obtain rfl := some_inj hr
                  refine fin_norm (fin_conv0 hc ?_)
                  simp
              · have hr := cond_f h38 hr
                refine AWp.skip ?_
                obtain rfl := some_inj hr
                refine fin_norm ?_
                simp

@[simp] noncomputable def gControlCommandTake.S : Sp
  | [.ptr i0 0, .ptr i1 0, .lit (.int .i32 x2)], M => match M[i0]? with
    | some (.blk c0) => (match M[i1]? with
    | some (.blk c1) => (fun (y0 : Antiphonref07Command) => (fun (r : Antiphonref07Command × Bool × OctetReader) => some { av := .tup [], M := some ((M.set i0 (.blk [.lit (.int .i64 (r.1.fKind)), .lit (.string (r.1.fRoom)), .lit (.string (r.1.fName)), .lit (.int .i64 (r.1.fPeer)), .lit (.int .i64 (r.1.fOf)), .lit (.int .i64 (r.1.fTrack)), .lit (.int .i64 (r.1.fLayer)), .lit (.bool (r.1.fOn)), .lit (.bool (r.1.fVideo)), .sl ((r.1.fSsrcs).map (eNum .u32)) (tokB (r.2.1))])).set i1 (.blk [.lit (.string (r.2.2.fS)), .lit (.int .i64 (r.2.2.fE))])), obl := c0 = [.lit (.int .i64 (y0.fKind)), .lit (.string (y0.fRoom)), .lit (.string (y0.fName)), .lit (.int .i64 (y0.fPeer)), .lit (.int .i64 (y0.fOf)), .lit (.int .i64 (y0.fTrack)), .lit (.int .i64 (y0.fLayer)), .lit (.bool (y0.fOn)), .lit (.bool (y0.fVideo)), .sl ((y0.fSsrcs).map (eNum .u32)) (tokB (flagAt c0 9))] ∧ c1 = OctetReader.enc (OctetReader.dec c1) ∧ (gControlCommandTake y0 (flagAt c0 9) (OctetReader.dec c1) x2).isSome = true ∧ i0 ≠ i1 }) ((gControlCommandTake y0 (flagAt c0 9) (OctetReader.dec c1) x2).getD dflt)) (Antiphonref07Command.dec c0)
    | _ => none)
    | _ => none
  | _, _ => none

set_option maxHeartbeats 1000000 in
theorem gControlCommandTake.ok : SpecOk Tryd.prog 24 gControlCommandTake.S := by
  intro l M out h
  unfold gControlCommandTake.S at h
  split at h
  · rename_i i0 i1 x2
    split at h
    case h_2 => cases h
    rename_i c0 hM0
    split at h
    case h_2 => cases h
    rename_i c1 hM1
    try dsimp only at h
    cases h
    refine callOk_of fun ho => ?_
    obtain ⟨oc0, oc1, hs, hne0⟩ := ho
    generalize (Antiphonref07Command.dec c0) = y0 at *
    generalize (flagAt c0 9) = kf0 at *
    generalize (OctetReader.dec c1) = y1 at *
    subst oc0
    subst oc1
    cases kf0
    all_goals
      obtain ⟨r, hr⟩ := Option.isSome_iff_exists.1 hs
      obtain ⟨rq, rb, rr⟩ := r
      cases rb
      all_goals
        simp only [hr, Option.getD_some]
        have q := call_frame (M := M) [i0, i1] (gControlCommandTake.can y0 _ y1 x2 _ hr) (by simp [hne0]) rfl (by intro k i hk; (cases k with | zero => (simp at hk; subst hk; simp [hM0]) | succ k => ((cases k with | zero => (simp at hk; subst hk; simp [hM1]) | succ k => (simp at hk)))))
        exact callOk_conv q trivial (by simp [into]) (by simp [frameOut, gControlCommandTake.out]) (by simp [frameOut, gControlCommandTake.out])
  · cases h

@[simp] def gControlParse.out (_x0 : ByteArray) (r : Antiphonref07Command × Int) : Out := { av := .tup [.agg [.lit (.int .i64 r.1.fKind), .lit (.string r.1.fRoom), .lit (.string r.1.fName), .lit (.int .i64 r.1.fPeer), .lit (.int .i64 r.1.fOf), .lit (.int .i64 r.1.fTrack), .lit (.int .i64 r.1.fLayer), .lit (.bool r.1.fOn), .lit (.bool r.1.fVideo), .sl (r.1.fSsrcs.map (eNum .u32)) .no], .lit (.int .i64 r.2)], M := none }
def gControlParse.fin (x0 : ByteArray) (r : Antiphonref07Command × Int) (σ : St) : Prop := finK (gControlParse.out x0 r) [] σ.M (resA Tryd.ty σ.A σ.M Tryd.f9.results.toList)
set_option maxHeartbeats 4000000 in
set_option maxRecDepth 100000 in
theorem gControlParse.can (x0 : ByteArray) (r : Antiphonref07Command × Int) (hr : gControlParse x0 = some r) : CallOk Tryd.prog 9 [.lit (.string x0)] [] (gControlParse.out x0 r) := by
  unfold gControlParse at hr
  have hΓ := (gamL_cons gControlCommandTake.ok (gamL_cons gOctetReaderEnd.ok (gamL_cons gOctetReaderErr.ok (gamL_cons gOctetReaderFail.ok (gamL_cons gOctetReaderU8.ok (gamL_cons gControlCommandCheck.ok (gamL_cons gControlHas.ok (gamL_cons gOctetRead.ok (gamL_nil)))))))) : GamOk Tryd.prog _)
  refine call_of_awp Tryd.tyOk Tryd.func9 rfl (by kernel_rfl) rfl rfl (by simp) ?_
  intro _ _ _
  refine AWp.then ⟨[⟨2, none, .ptr 0 0⟩, ⟨0, none, .lit (.string x0)⟩], [.blk [.lit (.int .i64 0), .lit (.string ⟨#[]⟩), .lit (.string ⟨#[]⟩), .lit (.int .i64 0), .lit (.int .i64 0), .lit (.int .i64 0), .lit (.int .i64 0), .lit (.bool false), .lit (.bool false), .sl [] .full]]⟩ (AWp.reg Tryd.tyOk hΓ (keep := [2]) (dead := []) (by kernel_rfl) rfl (by simp)) ?_
  obtain ⟨r1, h14, hr⟩ := bind_some' hr
  refine AWp.then ⟨[⟨4, none, .ptr 1 0⟩, ⟨2, none, .ptr 0 0⟩], [.blk [.lit (.int .i64 0), .lit (.string ⟨#[]⟩), .lit (.string ⟨#[]⟩), .lit (.int .i64 0), .lit (.int .i64 0), .lit (.int .i64 0), .lit (.int .i64 0), .lit (.bool false), .lit (.bool false), .sl [] .full], .blk r1.enc]⟩ (AWp.reg Tryd.tyOk hΓ (keep := [4]) (dead := [0]) (by kernel_rfl) rfl (by simp [h14])) ?_
  obtain ⟨r2, h15, hr⟩ := bind_some' hr
  refine AWp.then ⟨[⟨5, none, .ptr 2 0⟩, ⟨4, none, .ptr 1 0⟩, ⟨2, none, .ptr 0 0⟩], [.blk [.lit (.int .i64 0), .lit (.string ⟨#[]⟩), .lit (.string ⟨#[]⟩), .lit (.int .i64 0), .lit (.int .i64 0), .lit (.int .i64 0), .lit (.int .i64 0), .lit (.bool false), .lit (.bool false), .sl [] .full], .blk r2.2.enc, .blk [.lit (.int .i64 (cvtI .i64 r2.1)), .lit (.string ⟨#[]⟩), .lit (.string ⟨#[]⟩), .lit (.int .i64 0), .lit (.int .i64 0), .lit (.int .i64 0), .lit (.int .i64 0), .lit (.bool false), .lit (.bool false), .sl [] .full]]⟩ (AWp.reg Tryd.tyOk hΓ (keep := [5]) (dead := []) (by kernel_rfl) rfl (by simp [h15])) ?_
  refine AWp.meetF (fun (v1 : OctetReader) (γ1 : Unit) => ⟨[⟨5, none, .ptr 2 0⟩, ⟨4, none, .ptr 1 0⟩, ⟨2, none, .ptr 0 0⟩], [.blk [.lit (.int .i64 0), .lit (.string ⟨#[]⟩), .lit (.string ⟨#[]⟩), .lit (.int .i64 0), .lit (.int .i64 0), .lit (.int .i64 0), .lit (.int .i64 0), .lit (.bool false), .lit (.bool false), .sl [] .full], .blk v1.enc, .blk [.lit (.int .i64 (cvtI .i64 r2.1)), .lit (.string ⟨#[]⟩), .lit (.string ⟨#[]⟩), .lit (.int .i64 0), .lit (.int .i64 0), .lit (.int .i64 0), .lit (.int .i64 0), .lit (.bool false), .lit (.bool false), .sl [] .full]]⟩) (gControlParse.fin x0) hr (fun f hr => ?_) (fun v1 γ1 hr => ?_) (fun _ h => h)
  · obtain ⟨r3, h16, hr⟩ := bind_some' hr
    obtain ⟨h17, hr⟩ := need_some hr
    refine AWp.then ⟨[⟨24, none, .lit (.bool (pickB (eqI r3 0) (eqS ((gControlHas (cvtI .i64 r2.1)).getD dflt) ⟨#[]⟩) false))⟩, ⟨5, none, .ptr 2 0⟩, ⟨4, none, .ptr 1 0⟩, ⟨2, none, .ptr 0 0⟩], [.blk [.lit (.int .i64 0), .lit (.string ⟨#[]⟩), .lit (.string ⟨#[]⟩), .lit (.int .i64 0), .lit (.int .i64 0), .lit (.int .i64 0), .lit (.int .i64 0), .lit (.bool false), .lit (.bool false), .sl [] .full], .blk r2.2.enc, .blk [.lit (.int .i64 (cvtI .i64 r2.1)), .lit (.string ⟨#[]⟩), .lit (.string ⟨#[]⟩), .lit (.int .i64 0), .lit (.int .i64 0), .lit (.int .i64 0), .lit (.int .i64 0), .lit (.bool false), .lit (.bool false), .sl [] .full]]⟩ (AWp.reg Tryd.tyOk hΓ (keep := [24]) (dead := []) (by kernel_rfl) rfl (by simp [h16, h17])) ?_
    refine AWp.cond (b := (pickB (eqI r3 0) (eqS ((gControlHas (cvtI .i64 r2.1)).getD dflt) ⟨#[]⟩) false)) (by simp) (fun h18 => ?_) (fun h18 => ?_)
    · have hr := cond_t h18 hr
      obtain ⟨r4, h19, hr⟩ := bind_some' hr
      refine AWp.last ⟨[⟨5, none, .ptr 2 0⟩, ⟨4, none, .ptr 1 0⟩, ⟨2, none, .ptr 0 0⟩], [.blk [.lit (.int .i64 0), .lit (.string ⟨#[]⟩), .lit (.string ⟨#[]⟩), .lit (.int .i64 0), .lit (.int .i64 0), .lit (.int .i64 0), .lit (.int .i64 0), .lit (.bool false), .lit (.bool false), .sl [] .full], .blk r4.enc, .blk [.lit (.int .i64 (cvtI .i64 r2.1)), .lit (.string ⟨#[]⟩), .lit (.string ⟨#[]⟩), .lit (.int .i64 0), .lit (.int .i64 0), .lit (.int .i64 0), .lit (.int .i64 0), .lit (.bool false), .lit (.bool false), .sl [] .full]]⟩ (AWp.reg Tryd.tyOk hΓ (keep := []) (dead := [24]) (by kernel_rfl) rfl (by simp [h18, h19])) ?_
      obtain rfl := some_inj hr
      exact meet_go () 3 (by first | (simp; done) | simp [h14, h15, h16, h17, h18, h19])
    · have hr := cond_f h18 hr
      refine AWp.skip ?_
      obtain rfl := some_inj hr
      exact meet_go () 3 (by first | (simp; done) | simp [h14, h15, h16, h17, h18])
  · refine AWp.seq ?_
    obtain ⟨r5, h20, hr⟩ := bind_some' hr
    refine AWp.then ⟨[⟨30, none, .it 3⟩, ⟨5, none, .ptr 2 0⟩, ⟨4, none, .ptr 1 0⟩, ⟨2, none, .ptr 0 0⟩], [.blk [.lit (.int .i64 0), .lit (.string ⟨#[]⟩), .lit (.string ⟨#[]⟩), .lit (.int .i64 0), .lit (.int .i64 0), .lit (.int .i64 0), .lit (.int .i64 0), .lit (.bool false), .lit (.bool false), .sl [] .full], .blk v1.enc, .blk [.lit (.int .i64 (cvtI .i64 r2.1)), .lit (.string ⟨#[]⟩), .lit (.string ⟨#[]⟩), .lit (.int .i64 0), .lit (.int .i64 0), .lit (.int .i64 0), .lit (.int .i64 0), .lit (.bool false), .lit (.bool false), .sl [] .full], .iter r5 0]⟩ (AWp.reg Tryd.tyOk hΓ (keep := [30]) (dead := []) (by kernel_rfl) rfl (by simp [h20])) ?_
    refine AWp.loopE (fun (s2 : OctetReader × Int × ByteArray × ByteArray × Int × Int × Int × Int × Bool × Bool × Bool × List Int × Nat) (γ2 : Unit) => ⟨[⟨30, none, .it 3⟩, ⟨5, none, .ptr 2 0⟩, ⟨4, none, .ptr 1 0⟩, ⟨2, none, .ptr 0 0⟩], [.blk [.lit (.int .i64 0), .lit (.string ⟨#[]⟩), .lit (.string ⟨#[]⟩), .lit (.int .i64 0), .lit (.int .i64 0), .lit (.int .i64 0), .lit (.int .i64 0), .lit (.bool false), .lit (.bool false), .sl [] .full], .blk s2.1.enc, .blk [.lit (.int .i64 s2.2.1), .lit (.string s2.2.2.1), .lit (.string s2.2.2.2.1), .lit (.int .i64 s2.2.2.2.2.1), .lit (.int .i64 s2.2.2.2.2.2.1), .lit (.int .i64 s2.2.2.2.2.2.2.1), .lit (.int .i64 s2.2.2.2.2.2.2.2.1), .lit (.bool s2.2.2.2.2.2.2.2.2.1), .lit (.bool s2.2.2.2.2.2.2.2.2.2.1), .sl (s2.2.2.2.2.2.2.2.2.2.2.2.1.map (eNum .u32)) (tokB s2.2.2.2.2.2.2.2.2.2.2.1)], .iter r5 s2.2.2.2.2.2.2.2.2.2.2.2.2]⟩) (fun (v2 : OctetReader × Int × ByteArray × ByteArray × Int × Int × Int × Int × Bool × Bool × Bool × List Int) (γ2a : Unit) => ⟨[⟨5, none, .ptr 2 0⟩, ⟨4, none, .ptr 1 0⟩, ⟨2, none, .ptr 0 0⟩], [.blk [.lit (.int .i64 0), .lit (.string ⟨#[]⟩), .lit (.string ⟨#[]⟩), .lit (.int .i64 0), .lit (.int .i64 0), .lit (.int .i64 0), .lit (.int .i64 0), .lit (.bool false), .lit (.bool false), .sl [] .full], .blk v2.1.enc, .blk [.lit (.int .i64 v2.2.1), .lit (.string v2.2.2.1), .lit (.string v2.2.2.2.1), .lit (.int .i64 v2.2.2.2.2.1), .lit (.int .i64 v2.2.2.2.2.2.1), .lit (.int .i64 v2.2.2.2.2.2.2.1), .lit (.int .i64 v2.2.2.2.2.2.2.2.1), .lit (.bool v2.2.2.2.2.2.2.2.2.1), .lit (.bool v2.2.2.2.2.2.2.2.2.2.1), .sl (v2.2.2.2.2.2.2.2.2.2.2.2.map (eNum .u32)) (tokB v2.2.2.2.2.2.2.2.2.2.2.1)], .dead]⟩) (gControlParse.fin x0) hr () 4 (by simp) (fun s2 f γ2 hr => ?_) (fun v2 γ2a σ1 m1 hr hc => ?_) (fun _ h => h)
    · unfold gControlParse.loop2 at hr
      cases h21 : (nextB r5 s2.2.2.2.2.2.2.2.2.2.2.2.2) with
      | true =>
        have hr := cond_t h21 hr
        refine AWp.then ⟨[⟨31, none, .tup [.lit (.bool true), .lit (.int .i64 (posI s2.2.2.2.2.2.2.2.2.2.2.2.2)), .lit (.int .i32 (runeS r5 s2.2.2.2.2.2.2.2.2.2.2.2.2))]⟩, ⟨32, none, .lit (.bool true)⟩, ⟨30, none, .it 3⟩, ⟨5, none, .ptr 2 0⟩, ⟨4, none, .ptr 1 0⟩, ⟨2, none, .ptr 0 0⟩], [.blk [.lit (.int .i64 0), .lit (.string ⟨#[]⟩), .lit (.string ⟨#[]⟩), .lit (.int .i64 0), .lit (.int .i64 0), .lit (.int .i64 0), .lit (.int .i64 0), .lit (.bool false), .lit (.bool false), .sl [] .full], .blk s2.1.enc, .blk [.lit (.int .i64 s2.2.1), .lit (.string s2.2.2.1), .lit (.string s2.2.2.2.1), .lit (.int .i64 s2.2.2.2.2.1), .lit (.int .i64 s2.2.2.2.2.2.1), .lit (.int .i64 s2.2.2.2.2.2.2.1), .lit (.int .i64 s2.2.2.2.2.2.2.2.1), .lit (.bool s2.2.2.2.2.2.2.2.2.1), .lit (.bool s2.2.2.2.2.2.2.2.2.2.1), .sl (s2.2.2.2.2.2.2.2.2.2.2.2.1.map (eNum .u32)) (tokB s2.2.2.2.2.2.2.2.2.2.2.1)], .iter r5 (stepS r5 s2.2.2.2.2.2.2.2.2.2.2.2.2)]⟩ (AWp.reg Tryd.tyOk hΓ (keep := [31, 32]) (dead := []) (by kernel_rfl) rfl (by simp [h21])) ?_
        refine AWp.seq ?_
        refine AWp.cond (b := true) (by simp) (fun hb => ?_) (fun hb => ?_)
        · refine AWp.skip ?_
          refine AWp.block ?_
          refine AWp.then ⟨[⟨7, none, .lit (.int .i32 (runeS r5 s2.2.2.2.2.2.2.2.2.2.2.2.2))⟩, ⟨30, none, .it 3⟩, ⟨5, none, .ptr 2 0⟩, ⟨4, none, .ptr 1 0⟩, ⟨2, none, .ptr 0 0⟩], [.blk [.lit (.int .i64 0), .lit (.string ⟨#[]⟩), .lit (.string ⟨#[]⟩), .lit (.int .i64 0), .lit (.int .i64 0), .lit (.int .i64 0), .lit (.int .i64 0), .lit (.bool false), .lit (.bool false), .sl [] .full], .blk s2.1.enc, .blk [.lit (.int .i64 s2.2.1), .lit (.string s2.2.2.1), .lit (.string s2.2.2.2.1), .lit (.int .i64 s2.2.2.2.2.1), .lit (.int .i64 s2.2.2.2.2.2.1), .lit (.int .i64 s2.2.2.2.2.2.2.1), .lit (.int .i64 s2.2.2.2.2.2.2.2.1), .lit (.bool s2.2.2.2.2.2.2.2.2.1), .lit (.bool s2.2.2.2.2.2.2.2.2.2.1), .sl (s2.2.2.2.2.2.2.2.2.2.2.2.1.map (eNum .u32)) (tokB s2.2.2.2.2.2.2.2.2.2.2.1)], .iter r5 (stepS r5 s2.2.2.2.2.2.2.2.2.2.2.2.2)]⟩ (AWp.reg Tryd.tyOk hΓ (keep := [7]) (dead := [31, 32]) (by kernel_rfl) rfl (by simp)) ?_
          obtain ⟨r6, h22, hr⟩ := bind_some' hr
          refine AWp.last ⟨[⟨30, none, .it 3⟩, ⟨5, none, .ptr 2 0⟩, ⟨4, none, .ptr 1 0⟩, ⟨2, none, .ptr 0 0⟩], [.blk [.lit (.int .i64 0), .lit (.string ⟨#[]⟩), .lit (.string ⟨#[]⟩), .lit (.int .i64 0), .lit (.int .i64 0), .lit (.int .i64 0), .lit (.int .i64 0), .lit (.bool false), .lit (.bool false), .sl [] .full], .blk r6.2.2.enc, .blk [.lit (.int .i64 r6.1.fKind), .lit (.string r6.1.fRoom), .lit (.string r6.1.fName), .lit (.int .i64 r6.1.fPeer), .lit (.int .i64 r6.1.fOf), .lit (.int .i64 r6.1.fTrack), .lit (.int .i64 r6.1.fLayer), .lit (.bool r6.1.fOn), .lit (.bool r6.1.fVideo), .sl (r6.1.fSsrcs.map (eNum .u32)) (tokB r6.2.1)], .iter r5 (stepS r5 s2.2.2.2.2.2.2.2.2.2.2.2.2)]⟩ (AWp.reg Tryd.tyOk hΓ (keep := []) (dead := [7]) (by kernel_rfl) rfl (by simp [h22])) ?_
          obtain rfl := some_inj hr
          exact round_go () 4 (by first | (simp; done) | simp [h14, h15, h20, h21, h22])
        · cases hb
      | false =>
        have hr := cond_f h21 hr
        refine AWp.then ⟨[⟨31, none, .tup [.lit (.bool false)]⟩, ⟨32, none, .lit (.bool false)⟩, ⟨30, none, .it 3⟩, ⟨5, none, .ptr 2 0⟩, ⟨4, none, .ptr 1 0⟩, ⟨2, none, .ptr 0 0⟩], [.blk [.lit (.int .i64 0), .lit (.string ⟨#[]⟩), .lit (.string ⟨#[]⟩), .lit (.int .i64 0), .lit (.int .i64 0), .lit (.int .i64 0), .lit (.int .i64 0), .lit (.bool false), .lit (.bool false), .sl [] .full], .blk s2.1.enc, .blk [.lit (.int .i64 s2.2.1), .lit (.string s2.2.2.1), .lit (.string s2.2.2.2.1), .lit (.int .i64 s2.2.2.2.2.1), .lit (.int .i64 s2.2.2.2.2.2.1), .lit (.int .i64 s2.2.2.2.2.2.2.1), .lit (.int .i64 s2.2.2.2.2.2.2.2.1), .lit (.bool s2.2.2.2.2.2.2.2.2.1), .lit (.bool s2.2.2.2.2.2.2.2.2.2.1), .sl (s2.2.2.2.2.2.2.2.2.2.2.2.1.map (eNum .u32)) (tokB s2.2.2.2.2.2.2.2.2.2.2.1)], .iter r5 s2.2.2.2.2.2.2.2.2.2.2.2.2]⟩ (AWp.reg Tryd.tyOk hΓ (keep := [31, 32]) (dead := []) (by kernel_rfl) rfl (by simp [h21])) ?_
        refine AWp.seq ?_
        refine AWp.cond (b := false) (by simp) (fun hb => ?_) (fun hb => ?_)
        · cases hb
        · refine AWp.exit ?_
          obtain rfl := some_inj hr
          exact round_out () 4 (by first | (simp; done) | simp [h14, h15, h20, h21])
    · refine AWp.conv hc ?_
      refine AWp.seq ?_
      obtain ⟨r6, h23, hr⟩ := bind_some' hr
      refine AWp.then ⟨[⟨8, none, .lit (.int .i64 r6.1)⟩, ⟨5, none, .ptr 2 0⟩, ⟨2, none, .ptr 0 0⟩], [.blk [.lit (.int .i64 0), .lit (.string ⟨#[]⟩), .lit (.string ⟨#[]⟩), .lit (.int .i64 0), .lit (.int .i64 0), .lit (.int .i64 0), .lit (.int .i64 0), .lit (.bool false), .lit (.bool false), .sl [] .full], .blk r6.2.enc, .blk [.lit (.int .i64 v2.2.1), .lit (.string v2.2.2.1), .lit (.string v2.2.2.2.1), .lit (.int .i64 v2.2.2.2.2.1), .lit (.int .i64 v2.2.2.2.2.2.1), .lit (.int .i64 v2.2.2.2.2.2.2.1), .lit (.int .i64 v2.2.2.2.2.2.2.2.1), .lit (.bool v2.2.2.2.2.2.2.2.2.1), .lit (.bool v2.2.2.2.2.2.2.2.2.2.1), .sl (v2.2.2.2.2.2.2.2.2.2.2.2.map (eNum .u32)) (tokB v2.2.2.2.2.2.2.2.2.2.2.1)], .dead]⟩ (AWp.reg Tryd.tyOk hΓ (keep := [8]) (dead := [4]) (by kernel_rfl) rfl (by simp [h23])) ?_
      refine AWp.then ⟨[⟨40, none, .lit (.bool (neI r6.1 0))⟩, ⟨8, none, .lit (.int .i64 r6.1)⟩, ⟨5, none, .ptr 2 0⟩, ⟨2, none, .ptr 0 0⟩], [.blk [.lit (.int .i64 0), .lit (.string ⟨#[]⟩), .lit (.string ⟨#[]⟩), .lit (.int .i64 0), .lit (.int .i64 0), .lit (.int .i64 0), .lit (.int .i64 0), .lit (.bool false), .lit (.bool false), .sl [] .full], .blk r6.2.enc, .blk [.lit (.int .i64 v2.2.1), .lit (.string v2.2.2.1), .lit (.string v2.2.2.2.1), .lit (.int .i64 v2.2.2.2.2.1), .lit (.int .i64 v2.2.2.2.2.2.1), .lit (.int .i64 v2.2.2.2.2.2.2.1), .lit (.int .i64 v2.2.2.2.2.2.2.2.1), .lit (.bool v2.2.2.2.2.2.2.2.2.1), .lit (.bool v2.2.2.2.2.2.2.2.2.2.1), .sl (v2.2.2.2.2.2.2.2.2.2.2.2.map (eNum .u32)) (tokB v2.2.2.2.2.2.2.2.2.2.2.1)], .dead]⟩ (AWp.reg Tryd.tyOk hΓ (keep := [40]) (dead := []) (by kernel_rfl) rfl (by simp)) ?_
      refine AWp.cond (b := (neI r6.1 0)) (by simp) (fun h24 => ?_) (fun h24 => ?_)
      · have hr := cond_t h24 hr
        refine AWp.then ⟨[⟨3, none, .lit (.int .i64 r6.1)⟩, ⟨2, none, .ptr 0 0⟩], [.blk [.lit (.int .i64 0), .lit (.string ⟨#[]⟩), .lit (.string ⟨#[]⟩), .lit (.int .i64 0), .lit (.int .i64 0), .lit (.int .i64 0), .lit (.int .i64 0), .lit (.bool false), .lit (.bool false), .sl [] .full], .blk r6.2.enc, .blk [.lit (.int .i64 v2.2.1), .lit (.string v2.2.2.1), .lit (.string v2.2.2.2.1), .lit (.int .i64 v2.2.2.2.2.1), .lit (.int .i64 v2.2.2.2.2.2.1), .lit (.int .i64 v2.2.2.2.2.2.2.1), .lit (.int .i64 v2.2.2.2.2.2.2.2.1), .lit (.bool v2.2.2.2.2.2.2.2.2.1), .lit (.bool v2.2.2.2.2.2.2.2.2.2.1), .sl (v2.2.2.2.2.2.2.2.2.2.2.2.map (eNum .u32)) (tokB v2.2.2.2.2.2.2.2.2.2.2.1)], .dead]⟩ (AWp.reg Tryd.tyOk hΓ (keep := [3]) (dead := [40, 8, 5]) (by kernel_rfl) rfl (by simp [h24])) ?_
        refine AWp.ret ?_
        obtain rfl := some_inj hr
        refine fin_ret ?_
        simp
      · have hr := cond_f h24 hr
        refine AWp.skip ?_
        refine AWp.seq ?_
        obtain ⟨r7, h25, hr⟩ := bind_some' hr
        refine AWp.then ⟨[⟨9, none, .lit (.int .i64 r7)⟩, ⟨5, none, .ptr 2 0⟩, ⟨2, none, .ptr 0 0⟩], [.blk [.lit (.int .i64 0), .lit (.string ⟨#[]⟩), .lit (.string ⟨#[]⟩), .lit (.int .i64 0), .lit (.int .i64 0), .lit (.int .i64 0), .lit (.int .i64 0), .lit (.bool false), .lit (.bool false), .sl [] .full], .blk r6.2.enc, .blk [.lit (.int .i64 v2.2.1), .lit (.string v2.2.2.1), .lit (.string v2.2.2.2.1), .lit (.int .i64 v2.2.2.2.2.1), .lit (.int .i64 v2.2.2.2.2.2.1), .lit (.int .i64 v2.2.2.2.2.2.2.1), .lit (.int .i64 v2.2.2.2.2.2.2.2.1), .lit (.bool v2.2.2.2.2.2.2.2.2.1), .lit (.bool v2.2.2.2.2.2.2.2.2.2.1), .sl (v2.2.2.2.2.2.2.2.2.2.2.2.map (eNum .u32)) (tokB v2.2.2.2.2.2.2.2.2.2.2.1)], .dead]⟩ (AWp.reg Tryd.tyOk hΓ (keep := [9]) (dead := [40, 8]) (by kernel_rfl) rfl (by simp [h24, h25])) ?_
        refine AWp.then ⟨[⟨46, none, .lit (.bool (neI r7 0))⟩, ⟨9, none, .lit (.int .i64 r7)⟩, ⟨5, none, .ptr 2 0⟩, ⟨2, none, .ptr 0 0⟩], [.blk [.lit (.int .i64 0), .lit (.string ⟨#[]⟩), .lit (.string ⟨#[]⟩), .lit (.int .i64 0), .lit (.int .i64 0), .lit (.int .i64 0), .lit (.int .i64 0), .lit (.bool false), .lit (.bool false), .sl [] .full], .blk r6.2.enc, .blk [.lit (.int .i64 v2.2.1), .lit (.string v2.2.2.1), .lit (.string v2.2.2.2.1), .lit (.int .i64 v2.2.2.2.2.1), .lit (.int .i64 v2.2.2.2.2.2.1), .lit (.int .i64 v2.2.2.2.2.2.2.1), .lit (.int .i64 v2.2.2.2.2.2.2.2.1), .lit (.bool v2.2.2.2.2.2.2.2.2.1), .lit (.bool v2.2.2.2.2.2.2.2.2.2.1), .sl (v2.2.2.2.2.2.2.2.2.2.2.2.map (eNum .u32)) (tokB v2.2.2.2.2.2.2.2.2.2.2.1)], .dead]⟩ (AWp.reg Tryd.tyOk hΓ (keep := [46]) (dead := []) (by kernel_rfl) rfl (by simp)) ?_
        refine AWp.cond (b := (neI r7 0)) (by simp) (fun h26 => ?_) (fun h26 => ?_)
        · have hr := cond_t h26 hr
          refine AWp.then ⟨[⟨3, none, .lit (.int .i64 r7)⟩, ⟨2, none, .ptr 0 0⟩], [.blk [.lit (.int .i64 0), .lit (.string ⟨#[]⟩), .lit (.string ⟨#[]⟩), .lit (.int .i64 0), .lit (.int .i64 0), .lit (.int .i64 0), .lit (.int .i64 0), .lit (.bool false), .lit (.bool false), .sl [] .full], .blk r6.2.enc, .blk [.lit (.int .i64 v2.2.1), .lit (.string v2.2.2.1), .lit (.string v2.2.2.2.1), .lit (.int .i64 v2.2.2.2.2.1), .lit (.int .i64 v2.2.2.2.2.2.1), .lit (.int .i64 v2.2.2.2.2.2.2.1), .lit (.int .i64 v2.2.2.2.2.2.2.2.1), .lit (.bool v2.2.2.2.2.2.2.2.2.1), .lit (.bool v2.2.2.2.2.2.2.2.2.2.1), .sl (v2.2.2.2.2.2.2.2.2.2.2.2.map (eNum .u32)) (tokB v2.2.2.2.2.2.2.2.2.2.2.1)], .dead]⟩ (AWp.reg Tryd.tyOk hΓ (keep := [3]) (dead := [46, 9, 5]) (by kernel_rfl) rfl (by simp [h26])) ?_
          refine AWp.ret ?_
          obtain rfl := some_inj hr
          refine fin_ret ?_
          simp
        · have hr := cond_f h26 hr
          refine AWp.skip ?_
          refine AWp.then ⟨[⟨3, none, .lit (.int .i64 0)⟩, ⟨2, none, .ptr 0 0⟩], [.blk [.lit (.int .i64 v2.2.1), .lit (.string v2.2.2.1), .lit (.string v2.2.2.2.1), .lit (.int .i64 v2.2.2.2.2.1), .lit (.int .i64 v2.2.2.2.2.2.1), .lit (.int .i64 v2.2.2.2.2.2.2.1), .lit (.int .i64 v2.2.2.2.2.2.2.2.1), .lit (.bool v2.2.2.2.2.2.2.2.2.1), .lit (.bool v2.2.2.2.2.2.2.2.2.2.1), .sl (v2.2.2.2.2.2.2.2.2.2.2.2.map (eNum .u32)) (tokB v2.2.2.2.2.2.2.2.2.2.2.1)], .blk r6.2.enc, .blk [.lit (.int .i64 v2.2.1), .lit (.string v2.2.2.1), .lit (.string v2.2.2.2.1), .lit (.int .i64 v2.2.2.2.2.1), .lit (.int .i64 v2.2.2.2.2.2.1), .lit (.int .i64 v2.2.2.2.2.2.2.1), .lit (.int .i64 v2.2.2.2.2.2.2.2.1), .lit (.bool v2.2.2.2.2.2.2.2.2.1), .lit (.bool v2.2.2.2.2.2.2.2.2.2.1), .sl (v2.2.2.2.2.2.2.2.2.2.2.2.map (eNum .u32)) (tokB v2.2.2.2.2.2.2.2.2.2.2.1)], .dead]⟩ (AWp.reg Tryd.tyOk hΓ (keep := [3]) (dead := [46, 9, 5]) (by kernel_rfl) rfl (by simp [h26])) ?_
          refine AWp.ret ?_
          obtain rfl := some_inj hr
          refine fin_ret ?_
          simp

@[simp] noncomputable def gControlParse.S : Sp
  | [.lit (.string x0)], _ => (fun (r : Antiphonref07Command × Int) => some { av := .tup [.agg [.lit (.int .i64 (r.1.fKind)), .lit (.string (r.1.fRoom)), .lit (.string (r.1.fName)), .lit (.int .i64 (r.1.fPeer)), .lit (.int .i64 (r.1.fOf)), .lit (.int .i64 (r.1.fTrack)), .lit (.int .i64 (r.1.fLayer)), .lit (.bool (r.1.fOn)), .lit (.bool (r.1.fVideo)), .sl ((r.1.fSsrcs).map (eNum .u32)) .no], .lit (.int .i64 (r.2))], M := none, obl := (gControlParse x0).isSome = true }) ((gControlParse x0).getD dflt)
  | _, _ => none

set_option maxHeartbeats 1000000 in
theorem gControlParse.ok : SpecOk Tryd.prog 9 gControlParse.S := by
  intro l M out h
  unfold gControlParse.S at h
  split at h
  · rename_i x0
    try dsimp only at h
    cases h
    refine callOk_of fun ho => ?_
    have hs := ho
    obtain ⟨r, hr⟩ := Option.isSome_iff_exists.1 hs
    simp only [hr, Option.getD_some]
    have q := call_frame (M := M) [] (gControlParse.can x0 r hr) (by simp) rfl (by intro k i hk; simp at hk)
    exact callOk_conv q trivial (by simp) (by simp [frameOut, gControlParse.out]) (by simp [frameOut, gControlParse.out])
  · cases h
end Go.Proofs

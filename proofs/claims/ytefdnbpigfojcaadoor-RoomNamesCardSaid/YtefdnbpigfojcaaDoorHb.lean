/- That these functions compute what their plain functions do. No condition. -/
import Derived.Test.YtefdnbpigfojcaaDoorM08
import Derived.Test.YtefdnbpigfojcaaDoorTy
import Derived.Test.YtefdnbpigfojcaaDoorNa
import Derived.Test.YtefdnbpigfojcaaDoorHa
import Derived.Test.YtefdnbpigfojcaaDoorM04
namespace Go.Proofs
open Go.Ab
@[simp] def gRoomTableJoin1.out (_x0 : Antiphonref12Peer) (_x1 : ByteArray) (r : Bool) : Out := { av := .lit (.bool r), M := none }
def gRoomTableJoin1.fin (x0 : Antiphonref12Peer) (x1 : ByteArray) (r : Bool) (σ : St) : Prop := finK (gRoomTableJoin1.out x0 x1 r) [.blk [.lit (.string x1)]] σ.M (resA Tryd.ty σ.A σ.M Tryd.f27.results.toList)
set_option maxHeartbeats 4000000 in
set_option maxRecDepth 100000 in
theorem gRoomTableJoin1.can (x0 : Antiphonref12Peer) (x1 : ByteArray) (r : Bool) (hr : gRoomTableJoin1 x0 x1 = some r) : CallOk Tryd.prog 27 [.agg [.lit (.int .i64 x0.fN), .lit (.string x0.fName), .lit (.string x0.fRoom)], .ptr 0 0] [.blk [.lit (.string x1)]] (gRoomTableJoin1.out x0 x1 r) := by
  unfold gRoomTableJoin1 at hr
  have hΓ := (gamL_cons gLabelSame.ok (gamL_nil) : GamOk Tryd.prog _)
  refine call_of_awp Tryd.tyOk Tryd.func27 rfl (by kernel_rfl) rfl rfl (by simp) ?_
  intro _ _ _
  refine AWp.then ⟨[⟨2, none, .ptr 1 0⟩, ⟨1, none, .ptr 0 0⟩], [.blk [.lit (.string x1)], .blk x0.enc]⟩ (AWp.reg Tryd.tyOk hΓ (keep := [2]) (dead := [0]) (by kernel_rfl) rfl (by simp)) ?_
  obtain ⟨r1, h2, hr⟩ := bind_some' hr
  refine AWp.then ⟨[⟨3, none, .lit (.bool r1)⟩], [.blk [.lit (.string x1)], .blk x0.enc]⟩ (AWp.reg Tryd.tyOk hΓ (keep := [3]) (dead := [2, 1]) (by kernel_rfl) rfl (by simp [h2])) ?_
  refine AWp.ret ?_
  obtain rfl := some_inj hr
  refine fin_ret ?_
  simp

@[simp] noncomputable def gRoomTableJoin1.S : Sp
  | [.agg e0, .ptr i0 0], M => match M[i0]? with
    | some (.blk c0) => some { av := .lit (.bool ((gRoomTableJoin1 (Antiphonref12Peer.dec e0) (decS c0)).getD dflt)), M := none, obl := WeakL e0 (Antiphonref12Peer.enc (Antiphonref12Peer.dec e0)) ∧ c0 = eTxt (decS c0) ∧ (gRoomTableJoin1 (Antiphonref12Peer.dec e0) (decS c0)).isSome = true }
    | _ => none
  | _, _ => none

set_option maxHeartbeats 1000000 in
theorem gRoomTableJoin1.ok : SpecOk Tryd.prog 27 gRoomTableJoin1.S := by
  intro l M out h
  unfold gRoomTableJoin1.S at h
  split at h
  · rename_i e0 i0
    split at h
    case h_2 => cases h
    rename_i c0 hM0
    cases h
    refine callOk_of fun ho => ?_
    obtain ⟨ox0, oc0, hs⟩ := ho
    generalize (Antiphonref12Peer.dec e0) = x0 at *
    generalize (decS c0) = y0 at *
    subst oc0
    obtain ⟨r, hr⟩ := Option.isSome_iff_exists.1 hs
    simp only [hr, Option.getD_some]
    have q := call_frame (M := M) [i0] (gRoomTableJoin1.can x0 y0 r hr) (by simp) rfl (by intro k i hk; (cases k with | zero => (simp at hk; subst hk; simp [hM0]) | succ k => (simp at hk)))
    exact callOk_conv q trivial (by simp [into]; exact ox0) (by simp [frameOut, gRoomTableJoin1.out]) (by simp only [frameOut, gRoomTableJoin1.out, Option.getD_some, Option.getD_none]; simp [hM0, set_same])
  · cases h

@[simp] def gSlicesIndexFuncRoomPeerRoomPeerAtRoomTableJoin1.out (_x0 : List Antiphonref12Peer) (_x1c0 : ByteArray) (r : Int) : Out := { av := .lit (.int .i64 r), M := none }
def gSlicesIndexFuncRoomPeerRoomPeerAtRoomTableJoin1.fin (x0 : List Antiphonref12Peer) (x1c0 : ByteArray) (r : Int) (σ : St) : Prop := finK (gSlicesIndexFuncRoomPeerRoomPeerAtRoomTableJoin1.out x0 x1c0 r) [.blk [.lit (.string x1c0)]] σ.M (resA Tryd.ty σ.A σ.M Tryd.f43.results.toList)
set_option maxHeartbeats 4000000 in
set_option maxRecDepth 100000 in
theorem gSlicesIndexFuncRoomPeerRoomPeerAtRoomTableJoin1.can (x0 : List Antiphonref12Peer) (x1c0 : ByteArray) (r : Int) (hr : gSlicesIndexFuncRoomPeerRoomPeerAtRoomTableJoin1 x0 x1c0 = some r) : CallOk Tryd.prog 43 [.sl (x0.map Antiphonref12Peer.enc) .no, .clo 27 [.ptr 0 0]] [.blk [.lit (.string x1c0)]] (gSlicesIndexFuncRoomPeerRoomPeerAtRoomTableJoin1.out x0 x1c0 r) := by
  unfold gSlicesIndexFuncRoomPeerRoomPeerAtRoomTableJoin1 at hr
  have hΓ := (gamL_cons gRoomTableJoin1.ok (gamL_nil) : GamOk Tryd.prog _)
  refine call_of_awp Tryd.tyOk Tryd.func43 rfl (by kernel_rfl) rfl rfl (by simp) ?_
  intro _ _ _
  refine AWp.then ⟨[⟨0, none, .sl (x0.map Antiphonref12Peer.enc) .no⟩, ⟨1, none, .clo 27 [.ptr 0 0]⟩], [.blk [.lit (.string x1c0)]]⟩ (AWp.reg Tryd.tyOk hΓ (keep := []) (dead := []) (by kernel_rfl) rfl (by simp)) ?_
  refine AWp.seq ?_
  refine AWp.then ⟨[⟨7, none, .lit (.int .i64 (lenL x0))⟩, ⟨8, none, .lit (.int .i64 0)⟩, ⟨0, none, .sl (x0.map Antiphonref12Peer.enc) .no⟩, ⟨1, none, .clo 27 [.ptr 0 0]⟩], [.blk [.lit (.string x1c0)]]⟩ (AWp.reg Tryd.tyOk hΓ (keep := [7, 8]) (dead := []) (by kernel_rfl) rfl (by simp)) ?_
  refine AWp.loopE (fun (s1 : Int) (γ1 : Unit) => ⟨[⟨7, none, .lit (.int .i64 (lenL x0))⟩, ⟨8, none, .lit (.int .i64 s1)⟩, ⟨0, none, .sl (x0.map Antiphonref12Peer.enc) .no⟩, ⟨1, none, .clo 27 [.ptr 0 0]⟩], [.blk [.lit (.string x1c0)]]⟩) (fun (v1 : Unit) (γ1a : Unit) => ⟨[], [.blk [.lit (.string x1c0)]]⟩) (gSlicesIndexFuncRoomPeerRoomPeerAtRoomTableJoin1.fin x0 x1c0) hr () 1 (by simp) (fun s1 f γ1 hr => ?_) (fun v1 γ1a σ1 m1 hr hc => ?_) (fun _ h => h)
  · unfold gSlicesIndexFuncRoomPeerRoomPeerAtRoomTableJoin1.loop1 at hr
    refine AWp.then ⟨[⟨9, none, .lit (.bool (ltI s1 (lenL x0)))⟩, ⟨7, none, .lit (.int .i64 (lenL x0))⟩, ⟨8, none, .lit (.int .i64 s1)⟩, ⟨0, none, .sl (x0.map Antiphonref12Peer.enc) .no⟩, ⟨1, none, .clo 27 [.ptr 0 0]⟩], [.blk [.lit (.string x1c0)]]⟩ (AWp.reg Tryd.tyOk hΓ (keep := [9]) (dead := []) (by kernel_rfl) rfl (by simp)) ?_
    refine AWp.seq ?_
    refine AWp.cond (b := (ltI s1 (lenL x0))) (by simp) (fun h5 => ?_) (fun h5 => ?_)
    · have hr := cond_t h5 hr
      refine AWp.skip ?_
      refine AWp.seq ?_
      refine AWp.block ?_
      refine AWp.then ⟨[⟨5, none, .lit (.int .i64 s1)⟩, ⟨7, none, .lit (.int .i64 (lenL x0))⟩, ⟨8, none, .lit (.int .i64 s1)⟩, ⟨0, none, .sl (x0.map Antiphonref12Peer.enc) .no⟩, ⟨1, none, .clo 27 [.ptr 0 0]⟩], [.blk [.lit (.string x1c0)]]⟩ (AWp.reg Tryd.tyOk hΓ (keep := [5]) (dead := [9]) (by kernel_rfl) rfl (by simp [h5])) ?_
      obtain ⟨h6, hr⟩ := need_some hr
      obtain ⟨r1, h7, hr⟩ := bind_some' hr
      refine AWp.then ⟨[⟨16, none, .lit (.bool r1)⟩, ⟨5, none, .lit (.int .i64 s1)⟩, ⟨7, none, .lit (.int .i64 (lenL x0))⟩, ⟨8, none, .lit (.int .i64 s1)⟩, ⟨0, none, .sl (x0.map Antiphonref12Peer.enc) .no⟩, ⟨1, none, .clo 27 [.ptr 0 0]⟩], [.blk [.lit (.string x1c0)]]⟩ (AWp.reg Tryd.tyOk hΓ (keep := [16]) (dead := []) (by kernel_rfl) rfl (by simp [h6, h7])) ?_
      refine AWp.cond (b := r1) (by simp) (fun h8 => ?_) (fun h8 => ?_)
      · have hr := cond_t h8 hr
        refine AWp.then ⟨[⟨4, none, .lit (.int .i64 s1)⟩], [.blk [.lit (.string x1c0)]]⟩ (AWp.reg Tryd.tyOk hΓ (keep := [4]) (dead := [16, 5, 7, 8, 0, 1]) (by kernel_rfl) rfl (by simp [h8])) ?_
        refine AWp.ret ?_
        obtain rfl := some_inj hr
        refine round_ret ?_
        refine fin_ret ?_
        simp
      · have hr := cond_f h8 hr
        refine AWp.skip ?_
        refine AWp.last ⟨[⟨8, none, .lit (.int .i64 (addI .i64 s1 1))⟩, ⟨7, none, .lit (.int .i64 (lenL x0))⟩, ⟨0, none, .sl (x0.map Antiphonref12Peer.enc) .no⟩, ⟨1, none, .clo 27 [.ptr 0 0]⟩], [.blk [.lit (.string x1c0)]]⟩ (AWp.reg Tryd.tyOk hΓ (keep := [8]) (dead := [16, 5]) (by kernel_rfl) rfl (by simp [h8])) ?_
        obtain rfl := some_inj hr
        exact round_go () 1 (by first | (simp; done) | simp [h5, h6, h7, h8])
    · have hr := cond_f h5 hr
      refine AWp.exit ?_
      obtain rfl := some_inj hr
      exact round_out () 1 (by first | (simp; done) | simp [h5])
  · refine AWp.conv hc ?_
    refine AWp.then ⟨[⟨4, none, .lit (.int .i64 (-1))⟩], [.blk [.lit (.string x1c0)]]⟩ (AWp.reg Tryd.tyOk hΓ (keep := [4]) (dead := []) (by kernel_rfl) rfl (by simp)) ?_
    refine AWp.ret ?_
    obtain rfl := some_inj hr
    refine fin_ret ?_
    simp

@[simp] noncomputable def gSlicesIndexFuncRoomPeerRoomPeerAtRoomTableJoin1.S : Sp
  | [.sl e0 _, .clo 27 [.ptr i0 0]], M => match M[i0]? with
    | some (.blk c0) => some { av := .lit (.int .i64 ((gSlicesIndexFuncRoomPeerRoomPeerAtRoomTableJoin1 (e0.map Antiphonref12Peer.dec) (decS c0)).getD dflt)), M := none, obl := e0 = (e0.map Antiphonref12Peer.dec).map Antiphonref12Peer.enc ∧ c0 = eTxt (decS c0) ∧ (gSlicesIndexFuncRoomPeerRoomPeerAtRoomTableJoin1 (e0.map Antiphonref12Peer.dec) (decS c0)).isSome = true }
    | _ => none
  | _, _ => none

set_option maxHeartbeats 1000000 in
theorem gSlicesIndexFuncRoomPeerRoomPeerAtRoomTableJoin1.ok : SpecOk Tryd.prog 43 gSlicesIndexFuncRoomPeerRoomPeerAtRoomTableJoin1.S := by
  intro l M out h
  unfold gSlicesIndexFuncRoomPeerRoomPeerAtRoomTableJoin1.S at h
  split at h
  · rename_i e0 k0 i0
    split at h
    case h_2 => cases h
    rename_i c0 hM0
    cases h
    refine callOk_of fun ho => ?_
    obtain ⟨ox0, oc0, hs⟩ := ho
    generalize (e0.map Antiphonref12Peer.dec) = x0 at *
    generalize (decS c0) = y0 at *
    subst ox0
    subst oc0
    obtain ⟨r, hr⟩ := Option.isSome_iff_exists.1 hs
    simp only [hr, Option.getD_some]
    have q := call_frame (M := M) [i0] (gSlicesIndexFuncRoomPeerRoomPeerAtRoomTableJoin1.can x0 y0 r hr) (by simp) rfl (by intro k i hk; (cases k with | zero => (simp at hk; subst hk; simp [hM0]) | succ k => (simp at hk)))
    exact callOk_conv q trivial (by simp [into]) (by simp [frameOut, gSlicesIndexFuncRoomPeerRoomPeerAtRoomTableJoin1.out]) (by simp only [frameOut, gSlicesIndexFuncRoomPeerRoomPeerAtRoomTableJoin1.out, Option.getD_some, Option.getD_none]; simp [hM0, set_same])
  · cases h

@[simp] def gSlicesContainsFuncRoomPeerRoomPeerAtRoomTableJoin1.out (_x0 : List Antiphonref12Peer) (_x1c0 : ByteArray) (r : Bool) : Out := { av := .lit (.bool r), M := none }
def gSlicesContainsFuncRoomPeerRoomPeerAtRoomTableJoin1.fin (x0 : List Antiphonref12Peer) (x1c0 : ByteArray) (r : Bool) (σ : St) : Prop := finK (gSlicesContainsFuncRoomPeerRoomPeerAtRoomTableJoin1.out x0 x1c0 r) [.blk [.lit (.string x1c0)]] σ.M (resA Tryd.ty σ.A σ.M Tryd.f26.results.toList)
set_option maxHeartbeats 4000000 in
set_option maxRecDepth 100000 in
theorem gSlicesContainsFuncRoomPeerRoomPeerAtRoomTableJoin1.can (x0 : List Antiphonref12Peer) (x1c0 : ByteArray) (r : Bool) (hr : gSlicesContainsFuncRoomPeerRoomPeerAtRoomTableJoin1 x0 x1c0 = some r) : CallOk Tryd.prog 26 [.sl (x0.map Antiphonref12Peer.enc) .no, .clo 27 [.ptr 0 0]] [.blk [.lit (.string x1c0)]] (gSlicesContainsFuncRoomPeerRoomPeerAtRoomTableJoin1.out x0 x1c0 r) := by
  unfold gSlicesContainsFuncRoomPeerRoomPeerAtRoomTableJoin1 at hr
  have hΓ := (gamL_cons gSlicesIndexFuncRoomPeerRoomPeerAtRoomTableJoin1.ok (gamL_nil) : GamOk Tryd.prog _)
  refine call_of_awp Tryd.tyOk Tryd.func26 rfl (by kernel_rfl) rfl rfl (by simp) ?_
  intro _ _ _
  refine AWp.then ⟨[⟨0, none, .sl (x0.map Antiphonref12Peer.enc) .no⟩, ⟨1, none, .clo 27 [.ptr 0 0]⟩], [.blk [.lit (.string x1c0)]]⟩ (AWp.reg Tryd.tyOk hΓ (keep := []) (dead := []) (by kernel_rfl) rfl (by simp)) ?_
  obtain ⟨r1, h2, hr⟩ := bind_some' hr
  refine AWp.then ⟨[⟨4, none, .lit (.bool (leqI 0 r1))⟩], [.blk [.lit (.string x1c0)]]⟩ (AWp.reg Tryd.tyOk hΓ (keep := [4]) (dead := [0, 1]) (by kernel_rfl) rfl (by simp [h2])) ?_
  refine AWp.ret ?_
  obtain rfl := some_inj hr
  refine fin_ret ?_
  simp

@[simp] noncomputable def gSlicesContainsFuncRoomPeerRoomPeerAtRoomTableJoin1.S : Sp
  | [.sl e0 _, .clo 27 [.ptr i0 0]], M => match M[i0]? with
    | some (.blk c0) => some { av := .lit (.bool ((gSlicesContainsFuncRoomPeerRoomPeerAtRoomTableJoin1 (e0.map Antiphonref12Peer.dec) (decS c0)).getD dflt)), M := none, obl := e0 = (e0.map Antiphonref12Peer.dec).map Antiphonref12Peer.enc ∧ c0 = eTxt (decS c0) ∧ (gSlicesContainsFuncRoomPeerRoomPeerAtRoomTableJoin1 (e0.map Antiphonref12Peer.dec) (decS c0)).isSome = true }
    | _ => none
  | _, _ => none

set_option maxHeartbeats 1000000 in
theorem gSlicesContainsFuncRoomPeerRoomPeerAtRoomTableJoin1.ok : SpecOk Tryd.prog 26 gSlicesContainsFuncRoomPeerRoomPeerAtRoomTableJoin1.S := by
  intro l M out h
  unfold gSlicesContainsFuncRoomPeerRoomPeerAtRoomTableJoin1.S at h
  split at h
  · rename_i e0 k0 i0
    split at h
    case h_2 => cases h
    rename_i c0 hM0
    cases h
    refine callOk_of fun ho => ?_
    obtain ⟨ox0, oc0, hs⟩ := ho
    generalize (e0.map Antiphonref12Peer.dec) = x0 at *
    generalize (decS c0) = y0 at *
    subst ox0
    subst oc0
    obtain ⟨r, hr⟩ := Option.isSome_iff_exists.1 hs
    simp only [hr, Option.getD_some]
    have q := call_frame (M := M) [i0] (gSlicesContainsFuncRoomPeerRoomPeerAtRoomTableJoin1.can x0 y0 r hr) (by simp) rfl (by intro k i hk; (cases k with | zero => (simp at hk; subst hk; simp [hM0]) | succ k => (simp at hk)))
    exact callOk_conv q trivial (by simp [into]) (by simp [frameOut, gSlicesContainsFuncRoomPeerRoomPeerAtRoomTableJoin1.out]) (by simp only [frameOut, gSlicesContainsFuncRoomPeerRoomPeerAtRoomTableJoin1.out, Option.getD_some, Option.getD_none]; simp [hM0, set_same])
  · cases h

@[simp] def gRoomTableJoin.out (_x0 : RoomTable) (_x1 : ByteArray) (_x2 : ByteArray) (r : Int × Int × RoomTable) : Out := { av := .tup [.lit (.int .i64 r.1), .lit (.int .i64 r.2.1)], M := some [.blk [.mp 1, .lit (.int .i64 r.2.2.fNext)], .mapo (encM (kI .i64) (vA Antiphonref12Peer.enc) r.2.2.fPeers)] }
def gRoomTableJoin.fin (x0 : RoomTable) (x1 : ByteArray) (x2 : ByteArray) (r : Int × Int × RoomTable) (σ : St) : Prop := finK (gRoomTableJoin.out x0 x1 x2 r) [.blk [.mp 1, .lit (.int .i64 x0.fNext)], .mapo (encM (kI .i64) (vA Antiphonref12Peer.enc) x0.fPeers)] σ.M (resA Tryd.ty σ.A σ.M Tryd.f11.results.toList)
set_option maxHeartbeats 4000000 in
set_option maxRecDepth 100000 in
theorem gRoomTableJoin.can (x0 : RoomTable) (x1 : ByteArray) (x2 : ByteArray) (r : Int × Int × RoomTable) (hr : gRoomTableJoin x0 x1 x2 = some r) : CallOk Tryd.prog 11 [.ptr 0 0, .lit (.string x1), .lit (.string x2)] [.blk [.mp 1, .lit (.int .i64 x0.fNext)], .mapo (encM (kI .i64) (vA Antiphonref12Peer.enc) x0.fPeers)] (gRoomTableJoin.out x0 x1 x2 r) := by
  unfold gRoomTableJoin at hr
  have hΓ := (gamL_cons gRoomTableIn.ok (gamL_cons gRoomTableRooms.ok (gamL_cons gLabelCheck.ok (gamL_cons gSlicesContainsFuncRoomPeerRoomPeerAtRoomTableJoin1.ok (gamL_nil)))) : GamOk Tryd.prog _)
  refine call_of_awp Tryd.tyOk Tryd.func11 rfl (by kernel_rfl) rfl rfl (by simp) ?_
  intro _ _ _
  refine AWp.then ⟨[⟨5, none, .ptr 2 0⟩, ⟨0, none, .ptr 0 0⟩, ⟨1, none, .lit (.string x1)⟩], [.blk [.mp 1, .lit (.int .i64 x0.fNext)], .mapo (encM (kI .i64) (vA Antiphonref12Peer.enc) x0.fPeers), .blk [.lit (.string x2)]]⟩ (AWp.reg Tryd.tyOk hΓ (keep := [5]) (dead := [2]) (by kernel_rfl) rfl (by simp)) ?_
  refine AWp.seq ?_
  obtain ⟨r1, h11, hr⟩ := bind_some' hr
  obtain ⟨h12, hr⟩ := need_some hr
  refine AWp.then ⟨[⟨17, none, .lit (.bool (pickB (neI r1 0) true (neI ((gLabelCheck x2).getD dflt) 0)))⟩, ⟨5, none, .ptr 2 0⟩, ⟨0, none, .ptr 0 0⟩, ⟨1, none, .lit (.string x1)⟩], [.blk [.mp 1, .lit (.int .i64 x0.fNext)], .mapo (encM (kI .i64) (vA Antiphonref12Peer.enc) x0.fPeers), .blk [.lit (.string x2)]]⟩ (AWp.reg Tryd.tyOk hΓ (keep := [17]) (dead := []) (by kernel_rfl) rfl (by simp [h11, h12])) ?_
  refine AWp.cond (b := (pickB (neI r1 0) true (neI ((gLabelCheck x2).getD dflt) 0))) (by simp) (fun h13 => ?_) (fun h13 => ?_)
  · have hr := cond_t h13 hr
    refine AWp.then ⟨[⟨6, none, .lit (.int .i64 0)⟩, ⟨7, none, .lit (.int .i64 6)⟩], [.blk [.mp 1, .lit (.int .i64 x0.fNext)], .mapo (encM (kI .i64) (vA Antiphonref12Peer.enc) x0.fPeers), .blk [.lit (.string x2)]]⟩ (AWp.reg Tryd.tyOk hΓ (keep := [6, 7]) (dead := [17, 5, 0, 1]) (by kernel_rfl) rfl (by simp [h13])) ?_
    refine AWp.ret ?_
    obtain rfl := some_inj hr
    refine fin_ret ?_
    simp
  · have hr := cond_f h13 hr
    refine AWp.skip ?_
    obtain ⟨r2, h14, hr⟩ := bind_some' hr
    refine AWp.then ⟨[⟨8, none, .sl (r2.map Antiphonref12Peer.enc) .no⟩, ⟨5, none, .ptr 2 0⟩, ⟨0, none, .ptr 0 0⟩, ⟨1, none, .lit (.string x1)⟩], [.blk [.mp 1, .lit (.int .i64 x0.fNext)], .mapo (encM (kI .i64) (vA Antiphonref12Peer.enc) x0.fPeers), .blk [.lit (.string x2)]]⟩ (AWp.reg Tryd.tyOk hΓ (keep := [8]) (dead := [17]) (by kernel_rfl) rfl (by simp [h13, h14])) ?_
    refine AWp.meetF (fun (v1 : Unit) (γ1 : Unit) => ⟨[⟨5, none, .ptr 2 0⟩, ⟨0, none, .ptr 0 0⟩, ⟨1, none, .lit (.string x1)⟩], [.blk [.mp 1, .lit (.int .i64 x0.fNext)], .mapo (encM (kI .i64) (vA Antiphonref12Peer.enc) x0.fPeers), .blk [.lit (.string x2)]]⟩) (gRoomTableJoin.fin x0 x1 x2) hr (fun f hr => ?_) (fun v1 γ1 hr => ?_) (fun _ h => h)
    · refine AWp.block ?_
      obtain ⟨r3, h15, hr⟩ := bind_some' hr
      refine AWp.then ⟨[⟨21, none, .lit (.bool r3)⟩, ⟨8, none, .sl (r2.map Antiphonref12Peer.enc) .no⟩, ⟨5, none, .ptr 2 0⟩, ⟨0, none, .ptr 0 0⟩, ⟨1, none, .lit (.string x1)⟩], [.blk [.mp 1, .lit (.int .i64 x0.fNext)], .mapo (encM (kI .i64) (vA Antiphonref12Peer.enc) x0.fPeers), .blk [.lit (.string x2)]]⟩ (AWp.reg Tryd.tyOk hΓ (keep := [21]) (dead := []) (by kernel_rfl) rfl (by simp [h15])) ?_
      refine AWp.cond (b := r3) (by simp) (fun h16 => ?_) (fun h16 => ?_)
      · have hr := cond_t h16 hr
        refine AWp.then ⟨[⟨6, none, .lit (.int .i64 0)⟩, ⟨7, none, .lit (.int .i64 10)⟩], [.blk [.mp 1, .lit (.int .i64 x0.fNext)], .mapo (encM (kI .i64) (vA Antiphonref12Peer.enc) x0.fPeers), .blk [.lit (.string x2)]]⟩ (AWp.reg Tryd.tyOk hΓ (keep := [6, 7]) (dead := [21, 8, 5, 0, 1]) (by kernel_rfl) rfl (by simp [h16])) ?_
        refine AWp.ret ?_
        obtain rfl := some_inj hr
        refine meet_ret ?_
        refine fin_ret ?_
        simp
      · have hr := cond_f h16 hr
        refine AWp.meetF (fun (v2 : Bool) (γ2 : Unit) => ⟨[⟨5, none, .ptr 2 0⟩, ⟨0, none, .ptr 0 0⟩, ⟨1, none, .lit (.string x1)⟩, ⟨25, none, .lit (.bool v2)⟩], [.blk [.mp 1, .lit (.int .i64 x0.fNext)], .mapo (encM (kI .i64) (vA Antiphonref12Peer.enc) x0.fPeers), .blk [.lit (.string x2)]]⟩) (QRm (gRoomTableJoin.fin x0 x1 x2)) hr (fun f hr => ?_) (fun v2 γ2 hr => ?_) (fun _ h => QRm_ret h)
        · refine AWp.then ⟨[⟨25, none, .lit (.bool (leqI 16 (lenL r2)))⟩, ⟨8, none, .sl (r2.map Antiphonref12Peer.enc) .no⟩, ⟨5, none, .ptr 2 0⟩, ⟨0, none, .ptr 0 0⟩, ⟨1, none, .lit (.string x1)⟩], [.blk [.mp 1, .lit (.int .i64 x0.fNext)], .mapo (encM (kI .i64) (vA Antiphonref12Peer.enc) x0.fPeers), .blk [.lit (.string x2)]]⟩ (AWp.reg Tryd.tyOk hΓ (keep := [25]) (dead := [21]) (by kernel_rfl) rfl (by simp [h16])) ?_
          refine AWp.cond (b := (leqI 16 (lenL r2))) (by simp) (fun h17 => ?_) (fun h17 => ?_)
          · have hr := cond_t h17 hr
            refine AWp.skip ?_
            obtain rfl := some_inj hr
            exact meet_go () 3 (by first | (simp; done) | simp [h17])
          · have hr := cond_f h17 hr
            obtain ⟨h18, hr⟩ := need_some hr
            refine AWp.then ⟨[⟨25, none, .lit (.bool (pickB (eqI (lenL r2) 0) (leqI 8 (lenL ((gRoomTableRooms x0).getD dflt))) false))⟩, ⟨5, none, .ptr 2 0⟩, ⟨0, none, .ptr 0 0⟩, ⟨1, none, .lit (.string x1)⟩], [.blk [.mp 1, .lit (.int .i64 x0.fNext)], .mapo (encM (kI .i64) (vA Antiphonref12Peer.enc) x0.fPeers), .blk [.lit (.string x2)]]⟩ (AWp.reg Tryd.tyOk hΓ (keep := [25]) (dead := [8]) (by kernel_rfl) rfl (by simp [h17, h18])) ?_
            refine AWp.cond (b := (pickB (eqI (lenL r2) 0) (leqI 8 (lenL ((gRoomTableRooms x0).getD dflt))) false)) (by simp) (fun h19 => ?_) (fun h19 => ?_)
            · have hr := cond_t h19 hr
              refine AWp.skip ?_
              obtain rfl := some_inj hr
              exact meet_go () 3 (by first | (simp; done) | simp [h19])
            · have hr := cond_f h19 hr
              refine AWp.last ⟨[⟨25, none, .lit (.bool (ltI 65535 x0.fNext))⟩, ⟨5, none, .ptr 2 0⟩, ⟨0, none, .ptr 0 0⟩, ⟨1, none, .lit (.string x1)⟩], [.blk [.mp 1, .lit (.int .i64 x0.fNext)], .mapo (encM (kI .i64) (vA Antiphonref12Peer.enc) x0.fPeers), .blk [.lit (.string x2)]]⟩ (AWp.reg Tryd.tyOk hΓ (keep := [25]) (dead := []) (by kernel_rfl) rfl (by simp [h19])) ?_
              obtain rfl := some_inj hr
              exact meet_go () 3 (by first | (simp; done) | simp [h11, h12, h13, h14, h15, h16, h17, h18, h19])
        · refine AWp.cond (b := v2) (by simp) (fun h20 => ?_) (fun h20 => ?_)
          · have hr := cond_t h20 hr
            refine AWp.then ⟨[⟨6, none, .lit (.int .i64 0)⟩, ⟨7, none, .lit (.int .i64 11)⟩], [.blk [.mp 1, .lit (.int .i64 x0.fNext)], .mapo (encM (kI .i64) (vA Antiphonref12Peer.enc) x0.fPeers), .blk [.lit (.string x2)]]⟩ (AWp.reg Tryd.tyOk hΓ (keep := [6, 7]) (dead := [5, 0, 1, 25]) (by kernel_rfl) rfl (by simp [h20])) ?_
            refine AWp.ret ?_
            obtain rfl := some_inj hr
            refine meet_ret ?_
            refine fin_ret ?_
            simp
          · have hr := cond_f h20 hr
            refine AWp.skip ?_
            obtain rfl := some_inj hr
            exact meet_go () 3 (by first | (simp; done) | simp [h11, h12, h13, h14, h15, h16, h20])
    · refine AWp.then ⟨[⟨9, none, .ptr 3 0⟩, ⟨0, none, .ptr 0 0⟩], [.blk [.mp 1, .lit (.int .i64 x0.fNext)], .mapo (encM (kI .i64) (vA Antiphonref12Peer.enc) x0.fPeers), .blk [.lit (.string x2)], .blk [.lit (.int .i64 x0.fNext), .lit (.string x2), .lit (.string x1)]]⟩ (AWp.regD Tryd.mixed Tryd.tyOk hΓ (keep := [9]) (dead := [5, 1]) [(0, 8), (1, 8), (2, 8), (3, 8), (4, 8), (5, 8), (6, 8)] [(false, []), (false, []), (false, []), (false, []), (false, []), (false, []), (false, []), (true, []), (true, [])] (by kernel_rfl) rfl (by simp)) ?_
      refine AWp.then ⟨[⟨9, none, .ptr 3 0⟩, ⟨0, none, .ptr 0 0⟩], [.blk [.mp 1, .lit (.int .i64 x0.fNext)], .mapo (encM (kI .i64) (vA Antiphonref12Peer.enc) (setM eqI x0.fNext (Antiphonref12Peer.mk x0.fNext x2 x1) x0.fPeers)), .blk [.lit (.string x2)], .blk [.lit (.int .i64 x0.fNext), .lit (.string x2), .lit (.string x1)]]⟩ (AWp.regD Tryd.mixed Tryd.tyOk hΓ (keep := []) (dead := []) [] [(false, []), (false, []), (false, []), (false, []), (false, []), (false, []), (false, []), (true, [])] (by kernel_rfl) rfl (by simp)) ?_
      refine AWp.then ⟨[⟨9, none, .ptr 3 0⟩], [.blk [.mp 1, .lit (.int .i64 (addI .i64 x0.fNext 1))], .mapo (encM (kI .i64) (vA Antiphonref12Peer.enc) (setM eqI x0.fNext (Antiphonref12Peer.mk x0.fNext x2 x1) x0.fPeers)), .blk [.lit (.string x2)], .blk [.lit (.int .i64 x0.fNext), .lit (.string x2), .lit (.string x1)]]⟩ (AWp.reg Tryd.tyOk hΓ (keep := []) (dead := [0]) (by kernel_rfl) rfl (by simp)) ?_
      refine AWp.then ⟨[⟨6, none, .lit (.int .i64 x0.fNext)⟩, ⟨7, none, .lit (.int .i64 0)⟩], [.blk [.mp 1, .lit (.int .i64 (addI .i64 x0.fNext 1))], .mapo (encM (kI .i64) (vA Antiphonref12Peer.enc) (setM eqI x0.fNext (Antiphonref12Peer.mk x0.fNext x2 x1) x0.fPeers)), .blk [.lit (.string x2)], .blk [.lit (.int .i64 x0.fNext), .lit (.string x2), .lit (.string x1)]]⟩ (AWp.reg Tryd.tyOk hΓ (keep := [6, 7]) (dead := [9]) (by kernel_rfl) rfl (by simp)) ?_
      refine AWp.ret ?_
      obtain rfl := some_inj hr
      refine fin_ret ?_
      simp

@[simp] noncomputable def gRoomTableJoin.S : Sp
  | [.ptr i0 0, .lit (.string x1), .lit (.string x2)], M => match M[i0]? with
    | some (.blk c0) => (match nthE c0 0 with
    | some (.mp i1) => (match M[i1]? with
    | some (.mapo c1) => (fun (y0 : RoomTable) => (fun (r : Int × Int × RoomTable) => some { av := .tup [.lit (.int .i64 (r.1)), .lit (.int .i64 (r.2.1))], M := some ((M.set i0 (.blk [.mp i1, .lit (.int .i64 (r.2.2.fNext))])).set i1 (.mapo (encM (kI .i64) (vA Antiphonref12Peer.enc) (r.2.2.fPeers)))), obl := c0 = RoomTable.enc y0 i1 ∧ c1 = encM (kI .i64) (vA Antiphonref12Peer.enc) (y0.fPeers) ∧ (gRoomTableJoin y0 x1 x2).isSome = true ∧ i0 ≠ i1 }) ((gRoomTableJoin y0 x1 x2).getD dflt)) (RoomTable.dec c0 (decM dkI (dvA Antiphonref12Peer.dec) c1))
    | _ => none)
    | _ => none)
    | _ => none
  | _, _ => none

set_option maxHeartbeats 1000000 in
theorem gRoomTableJoin.ok : SpecOk Tryd.prog 11 gRoomTableJoin.S := by
  intro l M out h
  unfold gRoomTableJoin.S at h
  split at h
  · rename_i i0 x1 x2
    split at h
    case h_2 => cases h
    rename_i c0 hM0
    split at h
    case h_2 => cases h
    rename_i i1 he1
    split at h
    case h_2 => cases h
    rename_i c1 hM1
    try dsimp only at h
    cases h
    refine callOk_of fun ho => ?_
    obtain ⟨oc0, oc1, hs, hne0⟩ := ho
    generalize (RoomTable.dec c0 (decM dkI (dvA Antiphonref12Peer.dec) c1)) = y0 at *
    subst oc0
    subst oc1
    obtain ⟨r, hr⟩ := Option.isSome_iff_exists.1 hs
    simp only [hr, Option.getD_some]
    have q := call_frame (M := M) [i0, i1] (gRoomTableJoin.can y0 x1 x2 r hr) (by simp [hne0]) rfl (by intro k i hk; (cases k with | zero => (simp at hk; subst hk; simp [hM0, into]) | succ k => ((cases k with | zero => (simp at hk; subst hk; simp [hM1]) | succ k => (simp at hk)))))
    exact callOk_conv q trivial (by simp [into]) (by simp [frameOut, gRoomTableJoin.out, into]) (by simp [frameOut, gRoomTableJoin.out, into])
  · cases h
end Go.Proofs

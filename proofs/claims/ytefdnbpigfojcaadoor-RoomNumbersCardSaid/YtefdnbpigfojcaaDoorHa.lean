/- That these functions compute what their plain functions do. No condition. -/
import Derived.Test.YtefdnbpigfojcaaDoorM08
import Derived.Test.YtefdnbpigfojcaaDoorTy
import Derived.Test.YtefdnbpigfojcaaDoorNa
import Derived.Test.YtefdnbpigfojcaaDoorM10
namespace Go.Proofs
open Go.Ab
@[simp] def gRoomNew.out  (r : RoomTable) : Out := { av := .ptr 1 0, M := some [.mapo (encM (kI .i64) (vA Antiphonref12Peer.enc) r.fPeers), .blk [.mp 0, .lit (.int .i64 r.fNext)]] }
def gRoomNew.fin  (r : RoomTable) (σ : St) : Prop := finK (gRoomNew.out  r) [] σ.M (resA Tryd.ty σ.A σ.M Tryd.f10.results.toList)
set_option maxHeartbeats 4000000 in
set_option maxRecDepth 100000 in
theorem gRoomNew.can  (r : RoomTable) (hr : gRoomNew = some r) : CallOk Tryd.prog 10 [] [] (gRoomNew.out  r) := by
  unfold gRoomNew at hr
  have hΓ := gamL_nil (P := Tryd.prog)
  refine call_of_awp Tryd.tyOk Tryd.func10 rfl (by kernel_rfl) rfl rfl (by simp) ?_
  intro _ _ _
  refine AWp.then ⟨[], []⟩ (AWp.reg Tryd.tyOk hΓ (keep := []) (dead := []) (by kernel_rfl) rfl (by simp)) ?_
  refine AWp.then ⟨[⟨0, none, .ptr 1 0⟩], [.mapo ([]), .blk [.mp 0, .lit (.int .i64 0)]]⟩ (AWp.reg Tryd.tyOk hΓ (keep := [0]) (dead := []) (by kernel_rfl) rfl (by simp)) ?_
  refine AWp.ret ?_
  obtain rfl := some_inj hr
  refine fin_ret ?_
  simp

@[simp] noncomputable def gRoomNew.S : Sp
  | [], M => some { av := .ptr (M.length + 1) 0, M := some (M ++ [.mapo (encM (kI .i64) (vA Antiphonref12Peer.enc) ((gRoomNew.getD dflt).fPeers)), .blk [.mp M.length, .lit (.int .i64 ((gRoomNew.getD dflt).fNext))]]), obl := gRoomNew.isSome = true }
  | _, _ => none

set_option maxHeartbeats 1000000 in
theorem gRoomNew.ok : SpecOk Tryd.prog 10 gRoomNew.S := by
  intro l M out h
  unfold gRoomNew.S at h
  split at h
  · cases h
    refine callOk_of fun ho => ?_
    have hs := ho
    obtain ⟨r, hr⟩ := Option.isSome_iff_exists.1 hs
    simp only [hr, Option.getD_some]
    have q := call_frame (M := M) [] (gRoomNew.can r hr) (by simp) rfl (by intro k i hk; simp at hk)
    exact callOk_conv q trivial (by simp) (by simp [frameOut, gRoomNew.out, into]) (by simp [frameOut, gRoomNew.out, into])
  · cases h

@[simp] def gRoomTableLen.out (_x0 : RoomTable) (r : Int) : Out := { av := .lit (.int .i64 r), M := none }
def gRoomTableLen.fin (x0 : RoomTable) (r : Int) (σ : St) : Prop := finK (gRoomTableLen.out x0 r) [.blk [.mp 1, .lit (.int .i64 x0.fNext)], .mapo (encM (kI .i64) (vA Antiphonref12Peer.enc) x0.fPeers)] σ.M (resA Tryd.ty σ.A σ.M Tryd.f21.results.toList)
set_option maxHeartbeats 4000000 in
set_option maxRecDepth 100000 in
theorem gRoomTableLen.can (x0 : RoomTable) (r : Int) (hr : gRoomTableLen x0 = some r) : CallOk Tryd.prog 21 [.ptr 0 0] [.blk [.mp 1, .lit (.int .i64 x0.fNext)], .mapo (encM (kI .i64) (vA Antiphonref12Peer.enc) x0.fPeers)] (gRoomTableLen.out x0 r) := by
  unfold gRoomTableLen at hr
  have hΓ := gamL_nil (P := Tryd.prog)
  refine call_of_awp Tryd.tyOk Tryd.func21 rfl (by kernel_rfl) rfl rfl (by simp) ?_
  intro _ _ _
  refine AWp.then ⟨[⟨0, none, .ptr 0 0⟩], [.blk [.mp 1, .lit (.int .i64 x0.fNext)], .mapo (encM (kI .i64) (vA Antiphonref12Peer.enc) x0.fPeers)]⟩ (AWp.reg Tryd.tyOk hΓ (keep := []) (dead := []) (by kernel_rfl) rfl (by simp)) ?_
  refine AWp.then ⟨[⟨2, none, .lit (.int .i64 (lenL x0.fPeers))⟩], [.blk [.mp 1, .lit (.int .i64 x0.fNext)], .mapo (encM (kI .i64) (vA Antiphonref12Peer.enc) x0.fPeers)]⟩ (AWp.reg Tryd.tyOk hΓ (keep := [2]) (dead := [0]) (by kernel_rfl) rfl (by simp)) ?_
  refine AWp.ret ?_
  obtain rfl := some_inj hr
  refine fin_ret ?_
  simp

@[simp] noncomputable def gRoomTableLen.S : Sp
  | [.ptr i0 0], M => match M[i0]? with
    | some (.blk c0) => (match nthE c0 0 with
    | some (.mp i1) => (match M[i1]? with
    | some (.mapo c1) => some { av := .lit (.int .i64 ((gRoomTableLen (RoomTable.dec c0 (decM dkI (dvA Antiphonref12Peer.dec) c1))).getD dflt)), M := none, obl := c0 = RoomTable.enc (RoomTable.dec c0 (decM dkI (dvA Antiphonref12Peer.dec) c1)) i1 ∧ c1 = encM (kI .i64) (vA Antiphonref12Peer.enc) ((RoomTable.dec c0 (decM dkI (dvA Antiphonref12Peer.dec) c1)).fPeers) ∧ (gRoomTableLen (RoomTable.dec c0 (decM dkI (dvA Antiphonref12Peer.dec) c1))).isSome = true ∧ i0 ≠ i1 }
    | _ => none)
    | _ => none)
    | _ => none
  | _, _ => none

set_option maxHeartbeats 1000000 in
theorem gRoomTableLen.ok : SpecOk Tryd.prog 21 gRoomTableLen.S := by
  intro l M out h
  unfold gRoomTableLen.S at h
  split at h
  · rename_i i0
    split at h
    case h_2 => cases h
    rename_i c0 hM0
    split at h
    case h_2 => cases h
    rename_i i1 he1
    split at h
    case h_2 => cases h
    rename_i c1 hM1
    cases h
    refine callOk_of fun ho => ?_
    obtain ⟨oc0, oc1, hs, hne0⟩ := ho
    generalize (RoomTable.dec c0 (decM dkI (dvA Antiphonref12Peer.dec) c1)) = y0 at *
    subst oc0
    subst oc1
    obtain ⟨r, hr⟩ := Option.isSome_iff_exists.1 hs
    simp only [hr, Option.getD_some]
    have q := call_frame (M := M) [i0, i1] (gRoomTableLen.can y0 r hr) (by simp [hne0]) rfl (by intro k i hk; (cases k with | zero => (simp at hk; subst hk; simp [hM0, into]) | succ k => ((cases k with | zero => (simp at hk; subst hk; simp [hM1]) | succ k => (simp at hk)))))
    exact callOk_conv q trivial (by simp [into]) (by simp [frameOut, gRoomTableLen.out, into]) (by simp only [frameOut, gRoomTableLen.out, Option.getD_some, Option.getD_none]; simp [into, hM0, hM1, set_same])
  · cases h

@[simp] def gRoomTablePeer.out (_x0 : RoomTable) (_x1 : Int) (r : Antiphonref12Peer × Bool) : Out := { av := .tup [.agg [.lit (.int .i64 r.1.fN), .lit (.string r.1.fName), .lit (.string r.1.fRoom)], .lit (.bool r.2)], M := none }
def gRoomTablePeer.fin (x0 : RoomTable) (x1 : Int) (r : Antiphonref12Peer × Bool) (σ : St) : Prop := finK (gRoomTablePeer.out x0 x1 r) [.blk [.mp 1, .lit (.int .i64 x0.fNext)], .mapo (encM (kI .i64) (vA Antiphonref12Peer.enc) x0.fPeers)] σ.M (resA Tryd.ty σ.A σ.M Tryd.f20.results.toList)
set_option maxHeartbeats 4000000 in
set_option maxRecDepth 100000 in
theorem gRoomTablePeer.can (x0 : RoomTable) (x1 : Int) (r : Antiphonref12Peer × Bool) (hr : gRoomTablePeer x0 x1 = some r) : CallOk Tryd.prog 20 [.ptr 0 0, .lit (.int .i64 x1)] [.blk [.mp 1, .lit (.int .i64 x0.fNext)], .mapo (encM (kI .i64) (vA Antiphonref12Peer.enc) x0.fPeers)] (gRoomTablePeer.out x0 x1 r) := by
  unfold gRoomTablePeer at hr
  have hΓ := gamL_nil (P := Tryd.prog)
  refine call_of_awp Tryd.tyOk Tryd.func20 rfl (by kernel_rfl) rfl rfl (by simp) ?_
  intro _ _ _
  refine AWp.then ⟨[⟨4, none, .ptr 2 0⟩, ⟨0, none, .ptr 0 0⟩, ⟨1, none, .lit (.int .i64 x1)⟩], [.blk [.mp 1, .lit (.int .i64 x0.fNext)], .mapo (encM (kI .i64) (vA Antiphonref12Peer.enc) x0.fPeers), .blk [.lit (.int .i64 0), .lit (.string ⟨#[]⟩), .lit (.string ⟨#[]⟩)]]⟩ (AWp.reg Tryd.tyOk hΓ (keep := [4]) (dead := []) (by kernel_rfl) rfl (by simp)) ?_
  refine AWp.then ⟨[⟨6, none, .ptr 3 0⟩, ⟨7, none, .lit (.bool (hasM eqI x1 x0.fPeers))⟩, ⟨4, none, .ptr 2 0⟩], [.blk [.mp 1, .lit (.int .i64 x0.fNext)], .mapo (encM (kI .i64) (vA Antiphonref12Peer.enc) x0.fPeers), .blk [.lit (.int .i64 0), .lit (.string ⟨#[]⟩), .lit (.string ⟨#[]⟩)], .blk (getM eqI x1 (Antiphonref12Peer.mk 0 ⟨⟨[]⟩⟩ ⟨⟨[]⟩⟩) x0.fPeers).enc]⟩ (AWp.reg Tryd.tyOk hΓ (keep := [6, 7]) (dead := [0, 1]) (by kernel_rfl) rfl (by simp)) ?_
  refine AWp.then ⟨[⟨5, none, .lit (.bool (hasM eqI x1 x0.fPeers))⟩, ⟨4, none, .ptr 2 0⟩], [.blk [.mp 1, .lit (.int .i64 x0.fNext)], .mapo (encM (kI .i64) (vA Antiphonref12Peer.enc) x0.fPeers), .blk (getM eqI x1 (Antiphonref12Peer.mk 0 ⟨⟨[]⟩⟩ ⟨⟨[]⟩⟩) x0.fPeers).enc, .blk (getM eqI x1 (Antiphonref12Peer.mk 0 ⟨⟨[]⟩⟩ ⟨⟨[]⟩⟩) x0.fPeers).enc]⟩ (AWp.reg Tryd.tyOk hΓ (keep := [5]) (dead := [6, 7]) (by kernel_rfl) rfl (by simp)) ?_
  refine AWp.ret ?_
  obtain rfl := some_inj hr
  refine fin_ret ?_
  simp

@[simp] noncomputable def gRoomTablePeer.S : Sp
  | [.ptr i0 0, .lit (.int .i64 x1)], M => match M[i0]? with
    | some (.blk c0) => (match nthE c0 0 with
    | some (.mp i1) => (match M[i1]? with
    | some (.mapo c1) => (fun (y0 : RoomTable) => (fun (r : Antiphonref12Peer × Bool) => some { av := .tup [.agg [.lit (.int .i64 (r.1.fN)), .lit (.string (r.1.fName)), .lit (.string (r.1.fRoom))], .lit (.bool (r.2))], M := none, obl := c0 = RoomTable.enc y0 i1 ∧ c1 = encM (kI .i64) (vA Antiphonref12Peer.enc) (y0.fPeers) ∧ (gRoomTablePeer y0 x1).isSome = true ∧ i0 ≠ i1 }) ((gRoomTablePeer y0 x1).getD dflt)) (RoomTable.dec c0 (decM dkI (dvA Antiphonref12Peer.dec) c1))
    | _ => none)
    | _ => none)
    | _ => none
  | _, _ => none

set_option maxHeartbeats 1000000 in
theorem gRoomTablePeer.ok : SpecOk Tryd.prog 20 gRoomTablePeer.S := by
  intro l M out h
  unfold gRoomTablePeer.S at h
  split at h
  · rename_i i0 x1
    split at h
    case h_2 => cases h
    rename_i c0 hM0
    split at h
    case h_2 => cases h
    rename_i i1 he1
    split at h
    case h_2 => cases h
    rename_i c1 hM1
    try dsimp only at h
    cases h
    refine callOk_of fun ho => ?_
    obtain ⟨oc0, oc1, hs, hne0⟩ := ho
    generalize (RoomTable.dec c0 (decM dkI (dvA Antiphonref12Peer.dec) c1)) = y0 at *
    subst oc0
    subst oc1
    obtain ⟨r, hr⟩ := Option.isSome_iff_exists.1 hs
    simp only [hr, Option.getD_some]
    have q := call_frame (M := M) [i0, i1] (gRoomTablePeer.can y0 x1 r hr) (by simp [hne0]) rfl (by intro k i hk; (cases k with | zero => (simp at hk; subst hk; simp [hM0, into]) | succ k => ((cases k with | zero => (simp at hk; subst hk; simp [hM1]) | succ k => (simp at hk)))))
    exact callOk_conv q trivial (by simp [into]) (by simp [frameOut, gRoomTablePeer.out, into]) (by simp only [frameOut, gRoomTablePeer.out, Option.getD_some, Option.getD_none]; simp [into, hM0, hM1, set_same])
  · cases h

@[simp] def gRoomTableIn.out (_x0 : RoomTable) (_x1 : ByteArray) (r : List Antiphonref12Peer) : Out := { av := .sl (r.map Antiphonref12Peer.enc) .no, M := none }
def gRoomTableIn.fin (x0 : RoomTable) (x1 : ByteArray) (r : List Antiphonref12Peer) (σ : St) : Prop := finK (gRoomTableIn.out x0 x1 r) [.blk [.mp 1, .lit (.int .i64 x0.fNext)], .mapo (encM (kI .i64) (vA Antiphonref12Peer.enc) x0.fPeers)] σ.M (resA Tryd.ty σ.A σ.M Tryd.f22.results.toList)
set_option maxHeartbeats 4000000 in
set_option maxRecDepth 100000 in
theorem gRoomTableIn.can (x0 : RoomTable) (x1 : ByteArray) (r : List Antiphonref12Peer) (hr : gRoomTableIn x0 x1 = some r) : CallOk Tryd.prog 22 [.ptr 0 0, .lit (.string x1)] [.blk [.mp 1, .lit (.int .i64 x0.fNext)], .mapo (encM (kI .i64) (vA Antiphonref12Peer.enc) x0.fPeers)] (gRoomTableIn.out x0 x1 r) := by
  unfold gRoomTableIn at hr
  have hΓ := (gamL_cons gLabelSame.ok (gamL_cons libKeys.gMapsKeysMapIntRoomPeerIntRoomPeer.ok (gamL_cons libSorted.gSlicesSortedInt.ok (gamL_nil))) : GamOk Tryd.prog _)
  refine call_of_awp Tryd.tyOk Tryd.func22 rfl (by kernel_rfl) rfl rfl (by simp) ?_
  intro _ _ _
  refine AWp.then ⟨[⟨0, none, .ptr 0 0⟩, ⟨1, none, .lit (.string x1)⟩], [.blk [.mp 1, .lit (.int .i64 x0.fNext)], .mapo (encM (kI .i64) (vA Antiphonref12Peer.enc) x0.fPeers)]⟩ (AWp.reg Tryd.tyOk hΓ (keep := []) (dead := []) (by kernel_rfl) rfl (by simp)) ?_
  refine AWp.then ⟨[⟨5, none, .sl [] .full⟩, ⟨0, none, .ptr 0 0⟩, ⟨1, none, .lit (.string x1)⟩], [.blk [.mp 1, .lit (.int .i64 x0.fNext)], .mapo (encM (kI .i64) (vA Antiphonref12Peer.enc) x0.fPeers)]⟩ (AWp.reg Tryd.tyOk hΓ (keep := [5]) (dead := []) (by kernel_rfl) rfl (by simp)) ?_
  refine AWp.seq ?_
  obtain ⟨h7, hr⟩ := need_some hr
  refine AWp.then ⟨[⟨14, none, .sl ((sortL (keysM x0.fPeers)).map (eNum .i64)) .no⟩, ⟨15, none, .lit (.int .i64 (lenL (sortL (keysM x0.fPeers))))⟩, ⟨16, none, .lit (.int .i64 0)⟩, ⟨5, none, .sl [] .full⟩, ⟨0, none, .ptr 0 0⟩, ⟨1, none, .lit (.string x1)⟩], [.blk [.mp 1, .lit (.int .i64 x0.fNext)], .mapo (encM (kI .i64) (vA Antiphonref12Peer.enc) x0.fPeers)]⟩ (AWp.reg Tryd.tyOk hΓ (keep := [14, 15, 16]) (dead := []) (by kernel_rfl) rfl (by simp [h7])) ?_
  refine AWp.equip 5 3 (els := []) (by simp) (by simp) ?_
  refine AWp.loopE (fun (s1 : Int × List Antiphonref12Peer) (γ1 : Nat) => ⟨[⟨14, none, .sl ((sortL (keysM x0.fPeers)).map (eNum .i64)) .no⟩, ⟨15, none, .lit (.int .i64 (lenL (sortL (keysM x0.fPeers))))⟩, ⟨16, none, .lit (.int .i64 s1.1)⟩, ⟨5, none, .sl (s1.2.map Antiphonref12Peer.enc) (.own 2 (γ1) 3)⟩, ⟨0, none, .ptr 0 0⟩, ⟨1, none, .lit (.string x1)⟩], [.blk [.mp 1, .lit (.int .i64 x0.fNext)], .mapo (encM (kI .i64) (vA Antiphonref12Peer.enc) x0.fPeers), .room (γ1)]⟩) (fun (v1 : List Antiphonref12Peer) (γ1a : Nat) => ⟨[⟨5, none, .sl (v1.map Antiphonref12Peer.enc) (.own 2 (γ1a) 3)⟩], [.blk [.mp 1, .lit (.int .i64 x0.fNext)], .mapo (encM (kI .i64) (vA Antiphonref12Peer.enc) x0.fPeers), .room (γ1a)]⟩) (gRoomTableIn.fin x0 x1) hr 0 3 (by simp) (fun s1 f γ1 hr => ?_) (fun v1 γ1a σ1 m1 hr hc => ?_) (fun _ h => h)
  · unfold gRoomTableIn.loop1 at hr
    refine AWp.then ⟨[⟨17, none, .lit (.bool (ltI s1.1 (lenL (sortL (keysM x0.fPeers)))))⟩, ⟨14, none, .sl ((sortL (keysM x0.fPeers)).map (eNum .i64)) .no⟩, ⟨15, none, .lit (.int .i64 (lenL (sortL (keysM x0.fPeers))))⟩, ⟨16, none, .lit (.int .i64 s1.1)⟩, ⟨5, none, .sl (s1.2.map Antiphonref12Peer.enc) (.own 2 (γ1) 3)⟩, ⟨0, none, .ptr 0 0⟩, ⟨1, none, .lit (.string x1)⟩], [.blk [.mp 1, .lit (.int .i64 x0.fNext)], .mapo (encM (kI .i64) (vA Antiphonref12Peer.enc) x0.fPeers), .room (γ1)]⟩ (AWp.reg Tryd.tyOk hΓ (keep := [17]) (dead := []) (by kernel_rfl) rfl (by simp)) ?_
    refine AWp.seq ?_
    refine AWp.cond (b := (ltI s1.1 (lenL (sortL (keysM x0.fPeers))))) (by simp) (fun h8 => ?_) (fun h8 => ?_)
    · have hr := cond_t h8 hr
      refine AWp.skip ?_
      refine AWp.seq ?_
      refine AWp.block ?_
      obtain ⟨h9, hr⟩ := need_some hr
      refine AWp.then ⟨[⟨7, none, .lit (.int .i64 (nthI (sortL (keysM x0.fPeers)) s1.1))⟩, ⟨14, none, .sl ((sortL (keysM x0.fPeers)).map (eNum .i64)) .no⟩, ⟨15, none, .lit (.int .i64 (lenL (sortL (keysM x0.fPeers))))⟩, ⟨16, none, .lit (.int .i64 s1.1)⟩, ⟨5, none, .sl (s1.2.map Antiphonref12Peer.enc) (.own 2 (γ1) 3)⟩, ⟨0, none, .ptr 0 0⟩, ⟨1, none, .lit (.string x1)⟩], [.blk [.mp 1, .lit (.int .i64 x0.fNext)], .mapo (encM (kI .i64) (vA Antiphonref12Peer.enc) x0.fPeers), .room (γ1)]⟩ (AWp.reg Tryd.tyOk hΓ (keep := [7]) (dead := [17]) (by kernel_rfl) rfl (by simp [h8, h9])) ?_
      refine AWp.then ⟨[⟨8, none, .ptr 3 0⟩, ⟨14, none, .sl ((sortL (keysM x0.fPeers)).map (eNum .i64)) .no⟩, ⟨15, none, .lit (.int .i64 (lenL (sortL (keysM x0.fPeers))))⟩, ⟨16, none, .lit (.int .i64 s1.1)⟩, ⟨5, none, .sl (s1.2.map Antiphonref12Peer.enc) (.own 2 (γ1) 3)⟩, ⟨0, none, .ptr 0 0⟩, ⟨1, none, .lit (.string x1)⟩], [.blk [.mp 1, .lit (.int .i64 x0.fNext)], .mapo (encM (kI .i64) (vA Antiphonref12Peer.enc) x0.fPeers), .room (γ1), .blk (getM eqI (nthI (sortL (keysM x0.fPeers)) s1.1) (Antiphonref12Peer.mk 0 ⟨⟨[]⟩⟩ ⟨⟨[]⟩⟩) x0.fPeers).enc]⟩ (AWp.reg Tryd.tyOk hΓ (keep := [8]) (dead := [7]) (by kernel_rfl) rfl (by simp)) ?_
      obtain ⟨r1, h10, hr⟩ := bind_some' hr
      refine AWp.then ⟨[⟨29, none, .lit (.bool r1)⟩, ⟨8, none, .ptr 3 0⟩, ⟨14, none, .sl ((sortL (keysM x0.fPeers)).map (eNum .i64)) .no⟩, ⟨15, none, .lit (.int .i64 (lenL (sortL (keysM x0.fPeers))))⟩, ⟨16, none, .lit (.int .i64 s1.1)⟩, ⟨5, none, .sl (s1.2.map Antiphonref12Peer.enc) (.own 2 (γ1) 3)⟩, ⟨0, none, .ptr 0 0⟩, ⟨1, none, .lit (.string x1)⟩], [.blk [.mp 1, .lit (.int .i64 x0.fNext)], .mapo (encM (kI .i64) (vA Antiphonref12Peer.enc) x0.fPeers), .room (γ1), .blk (getM eqI (nthI (sortL (keysM x0.fPeers)) s1.1) (Antiphonref12Peer.mk 0 ⟨⟨[]⟩⟩ ⟨⟨[]⟩⟩) x0.fPeers).enc]⟩ (AWp.reg Tryd.tyOk hΓ (keep := [29]) (dead := []) (by kernel_rfl) rfl (by simp [h10])) ?_
      refine AWp.cond (b := r1) (by simp) (fun h11 => ?_) (fun h11 => ?_)
      · have hr := cond_t h11 hr
        obtain ⟨h12, hr⟩ := need_some hr
        refine AWp.last ⟨[⟨5, none, .sl ((appL s1.2 [(getM eqI (nthI (sortL (keysM x0.fPeers)) s1.1) (Antiphonref12Peer.mk 0 ⟨⟨[]⟩⟩ ⟨⟨[]⟩⟩) x0.fPeers)]).map Antiphonref12Peer.enc) (.own 2 (γ1 + 1) 3)⟩, ⟨14, none, .sl ((sortL (keysM x0.fPeers)).map (eNum .i64)) .no⟩, ⟨15, none, .lit (.int .i64 (lenL (sortL (keysM x0.fPeers))))⟩, ⟨16, none, .lit (.int .i64 s1.1)⟩, ⟨0, none, .ptr 0 0⟩, ⟨1, none, .lit (.string x1)⟩], [.blk [.mp 1, .lit (.int .i64 x0.fNext)], .mapo (encM (kI .i64) (vA Antiphonref12Peer.enc) x0.fPeers), .room (γ1 + 1), .blk (getM eqI (nthI (sortL (keysM x0.fPeers)) s1.1) (Antiphonref12Peer.mk 0 ⟨⟨[]⟩⟩ ⟨⟨[]⟩⟩) x0.fPeers).enc]⟩ (AWp.reg Tryd.tyOk hΓ (keep := [5]) (dead := [29, 8]) (by kernel_rfl) rfl (by simp [h11, h12])) ?_
        refine AWp.last ⟨[⟨16, none, .lit (.int .i64 (addI .i64 s1.1 1))⟩, ⟨5, none, .sl ((appL s1.2 [(getM eqI (nthI (sortL (keysM x0.fPeers)) s1.1) (Antiphonref12Peer.mk 0 ⟨⟨[]⟩⟩ ⟨⟨[]⟩⟩) x0.fPeers)]).map Antiphonref12Peer.enc) (.own 2 (γ1 + 1) 3)⟩, ⟨14, none, .sl ((sortL (keysM x0.fPeers)).map (eNum .i64)) .no⟩, ⟨15, none, .lit (.int .i64 (lenL (sortL (keysM x0.fPeers))))⟩, ⟨0, none, .ptr 0 0⟩, ⟨1, none, .lit (.string x1)⟩], [.blk [.mp 1, .lit (.int .i64 x0.fNext)], .mapo (encM (kI .i64) (vA Antiphonref12Peer.enc) x0.fPeers), .room (γ1 + 1), .blk (getM eqI (nthI (sortL (keysM x0.fPeers)) s1.1) (Antiphonref12Peer.mk 0 ⟨⟨[]⟩⟩ ⟨⟨[]⟩⟩) x0.fPeers).enc]⟩ (AWp.reg Tryd.tyOk hΓ (keep := [16]) (dead := []) (by kernel_rfl) rfl (by simp)) ?_
        obtain rfl := some_inj hr
        exact round_go (γ1 + 1) 3 (by first | (simp; done) | simp [h7, h8, h9, h10, h11, h12])
      · have hr := cond_f h11 hr
        refine AWp.skip ?_
        refine AWp.last ⟨[⟨16, none, .lit (.int .i64 (addI .i64 s1.1 1))⟩, ⟨14, none, .sl ((sortL (keysM x0.fPeers)).map (eNum .i64)) .no⟩, ⟨15, none, .lit (.int .i64 (lenL (sortL (keysM x0.fPeers))))⟩, ⟨5, none, .sl (s1.2.map Antiphonref12Peer.enc) (.own 2 (γ1) 3)⟩, ⟨0, none, .ptr 0 0⟩, ⟨1, none, .lit (.string x1)⟩], [.blk [.mp 1, .lit (.int .i64 x0.fNext)], .mapo (encM (kI .i64) (vA Antiphonref12Peer.enc) x0.fPeers), .room (γ1), .blk (getM eqI (nthI (sortL (keysM x0.fPeers)) s1.1) (Antiphonref12Peer.mk 0 ⟨⟨[]⟩⟩ ⟨⟨[]⟩⟩) x0.fPeers).enc]⟩ (AWp.reg Tryd.tyOk hΓ (keep := [16]) (dead := [29, 8]) (by kernel_rfl) rfl (by simp [h11])) ?_
        obtain rfl := some_inj hr
        exact round_go (γ1) 3 (by first | (simp; done) | simp [h7, h8, h9, h10, h11])
    · have hr := cond_f h8 hr
      refine AWp.exit ?_
      obtain rfl := some_inj hr
      exact round_out (γ1) 3 (by first | (simp; done) | simp [h7, h8])
  · refine AWp.conv hc ?_
    refine AWp.then ⟨[⟨4, none, .sl (v1.map Antiphonref12Peer.enc) (.own 2 (γ1a) 3)⟩], [.blk [.mp 1, .lit (.int .i64 x0.fNext)], .mapo (encM (kI .i64) (vA Antiphonref12Peer.enc) x0.fPeers), .room (γ1a)]⟩ (AWp.reg Tryd.tyOk hΓ (keep := [4]) (dead := [5]) (by kernel_rfl) rfl (by simp)) ?_
    refine AWp.ret ?_
    obtain rfl := some_inj hr
    refine fin_ret ?_
    simp

@[simp] noncomputable def gRoomTableIn.S : Sp
  | [.ptr i0 0, .lit (.string x1)], M => match M[i0]? with
    | some (.blk c0) => (match nthE c0 0 with
    | some (.mp i1) => (match M[i1]? with
    | some (.mapo c1) => some { av := .sl (((gRoomTableIn (RoomTable.dec c0 (decM dkI (dvA Antiphonref12Peer.dec) c1)) x1).getD dflt).map Antiphonref12Peer.enc) .no, M := none, obl := c0 = RoomTable.enc (RoomTable.dec c0 (decM dkI (dvA Antiphonref12Peer.dec) c1)) i1 ∧ c1 = encM (kI .i64) (vA Antiphonref12Peer.enc) ((RoomTable.dec c0 (decM dkI (dvA Antiphonref12Peer.dec) c1)).fPeers) ∧ (gRoomTableIn (RoomTable.dec c0 (decM dkI (dvA Antiphonref12Peer.dec) c1)) x1).isSome = true ∧ i0 ≠ i1 }
    | _ => none)
    | _ => none)
    | _ => none
  | _, _ => none

set_option maxHeartbeats 1000000 in
theorem gRoomTableIn.ok : SpecOk Tryd.prog 22 gRoomTableIn.S := by
  intro l M out h
  unfold gRoomTableIn.S at h
  split at h
  · rename_i i0 x1
    split at h
    case h_2 => cases h
    rename_i c0 hM0
    split at h
    case h_2 => cases h
    rename_i i1 he1
    split at h
    case h_2 => cases h
    rename_i c1 hM1
    cases h
    refine callOk_of fun ho => ?_
    obtain ⟨oc0, oc1, hs, hne0⟩ := ho
    generalize (RoomTable.dec c0 (decM dkI (dvA Antiphonref12Peer.dec) c1)) = y0 at *
    subst oc0
    subst oc1
    obtain ⟨r, hr⟩ := Option.isSome_iff_exists.1 hs
    simp only [hr, Option.getD_some]
    have q := call_frame (M := M) [i0, i1] (gRoomTableIn.can y0 x1 r hr) (by simp [hne0]) rfl (by intro k i hk; (cases k with | zero => (simp at hk; subst hk; simp [hM0, into]) | succ k => ((cases k with | zero => (simp at hk; subst hk; simp [hM1]) | succ k => (simp at hk)))))
    exact callOk_conv q trivial (by simp [into]) (by simp [frameOut, gRoomTableIn.out, into]) (by simp only [frameOut, gRoomTableIn.out, Option.getD_some, Option.getD_none]; simp [into, hM0, hM1, set_same])
  · cases h

@[simp] def gRoomTableLeave.out (_x0 : RoomTable) (_x1 : Int) (r : Int × RoomTable) : Out := { av := .lit (.int .i64 r.1), M := some [.blk [.mp 1, .lit (.int .i64 r.2.fNext)], .mapo (encM (kI .i64) (vA Antiphonref12Peer.enc) r.2.fPeers)] }
def gRoomTableLeave.fin (x0 : RoomTable) (x1 : Int) (r : Int × RoomTable) (σ : St) : Prop := finK (gRoomTableLeave.out x0 x1 r) [.blk [.mp 1, .lit (.int .i64 x0.fNext)], .mapo (encM (kI .i64) (vA Antiphonref12Peer.enc) x0.fPeers)] σ.M (resA Tryd.ty σ.A σ.M Tryd.f16.results.toList)
set_option maxHeartbeats 4000000 in
set_option maxRecDepth 100000 in
theorem gRoomTableLeave.can (x0 : RoomTable) (x1 : Int) (r : Int × RoomTable) (hr : gRoomTableLeave x0 x1 = some r) : CallOk Tryd.prog 16 [.ptr 0 0, .lit (.int .i64 x1)] [.blk [.mp 1, .lit (.int .i64 x0.fNext)], .mapo (encM (kI .i64) (vA Antiphonref12Peer.enc) x0.fPeers)] (gRoomTableLeave.out x0 x1 r) := by
  unfold gRoomTableLeave at hr
  have hΓ := gamL_nil (P := Tryd.prog)
  refine call_of_awp Tryd.tyOk Tryd.func16 rfl (by kernel_rfl) rfl rfl (by simp) ?_
  intro _ _ _
  refine AWp.then ⟨[⟨0, none, .ptr 0 0⟩, ⟨1, none, .lit (.int .i64 x1)⟩], [.blk [.mp 1, .lit (.int .i64 x0.fNext)], .mapo (encM (kI .i64) (vA Antiphonref12Peer.enc) x0.fPeers)]⟩ (AWp.reg Tryd.tyOk hΓ (keep := []) (dead := []) (by kernel_rfl) rfl (by simp)) ?_
  refine AWp.seq ?_
  refine AWp.then ⟨[⟨6, none, .lit (.bool (hasM eqI x1 x0.fPeers))⟩, ⟨0, none, .ptr 0 0⟩, ⟨1, none, .lit (.int .i64 x1)⟩], [.blk [.mp 1, .lit (.int .i64 x0.fNext)], .mapo (encM (kI .i64) (vA Antiphonref12Peer.enc) x0.fPeers), .blk (getM eqI x1 (Antiphonref12Peer.mk 0 ⟨⟨[]⟩⟩ ⟨⟨[]⟩⟩) x0.fPeers).enc]⟩ (AWp.reg Tryd.tyOk hΓ (keep := [6]) (dead := []) (by kernel_rfl) rfl (by simp)) ?_
  refine AWp.then ⟨[⟨17, none, .lit (.bool (notB (hasM eqI x1 x0.fPeers)))⟩, ⟨0, none, .ptr 0 0⟩, ⟨1, none, .lit (.int .i64 x1)⟩], [.blk [.mp 1, .lit (.int .i64 x0.fNext)], .mapo (encM (kI .i64) (vA Antiphonref12Peer.enc) x0.fPeers), .blk (getM eqI x1 (Antiphonref12Peer.mk 0 ⟨⟨[]⟩⟩ ⟨⟨[]⟩⟩) x0.fPeers).enc]⟩ (AWp.reg Tryd.tyOk hΓ (keep := [17]) (dead := [6]) (by kernel_rfl) rfl (by simp)) ?_
  refine AWp.cond (b := (notB (hasM eqI x1 x0.fPeers))) (by simp) (fun h2 => ?_) (fun h2 => ?_)
  · have hr := cond_t h2 hr
    refine AWp.then ⟨[⟨4, none, .lit (.int .i64 8)⟩], [.blk [.mp 1, .lit (.int .i64 x0.fNext)], .mapo (encM (kI .i64) (vA Antiphonref12Peer.enc) x0.fPeers), .blk (getM eqI x1 (Antiphonref12Peer.mk 0 ⟨⟨[]⟩⟩ ⟨⟨[]⟩⟩) x0.fPeers).enc]⟩ (AWp.reg Tryd.tyOk hΓ (keep := [4]) (dead := [17, 0, 1]) (by kernel_rfl) rfl (by simp [h2])) ?_
    refine AWp.ret ?_
    obtain rfl := some_inj hr
    refine fin_ret ?_
    simp
  · have hr := cond_f h2 hr
    refine AWp.skip ?_
    refine AWp.then ⟨[], [.blk [.mp 1, .lit (.int .i64 x0.fNext)], .mapo (encM (kI .i64) (vA Antiphonref12Peer.enc) (delM eqI x1 x0.fPeers)), .blk (getM eqI x1 (Antiphonref12Peer.mk 0 ⟨⟨[]⟩⟩ ⟨⟨[]⟩⟩) x0.fPeers).enc]⟩ (AWp.reg Tryd.tyOk hΓ (keep := []) (dead := [17, 0, 1]) (by kernel_rfl) rfl (by simp [h2])) ?_
    refine AWp.then ⟨[⟨4, none, .lit (.int .i64 0)⟩], [.blk [.mp 1, .lit (.int .i64 x0.fNext)], .mapo (encM (kI .i64) (vA Antiphonref12Peer.enc) (delM eqI x1 x0.fPeers)), .blk (getM eqI x1 (Antiphonref12Peer.mk 0 ⟨⟨[]⟩⟩ ⟨⟨[]⟩⟩) x0.fPeers).enc]⟩ (AWp.reg Tryd.tyOk hΓ (keep := [4]) (dead := []) (by kernel_rfl) rfl (by simp)) ?_
    refine AWp.ret ?_
    obtain rfl := some_inj hr
    refine fin_ret ?_
    simp

@[simp] noncomputable def gRoomTableLeave.S : Sp
  | [.ptr i0 0, .lit (.int .i64 x1)], M => match M[i0]? with
    | some (.blk c0) => (match nthE c0 0 with
    | some (.mp i1) => (match M[i1]? with
    | some (.mapo c1) => (fun (y0 : RoomTable) => (fun (r : Int × RoomTable) => some { av := .lit (.int .i64 (r.1)), M := some ((M.set i0 (.blk [.mp i1, .lit (.int .i64 (r.2.fNext))])).set i1 (.mapo (encM (kI .i64) (vA Antiphonref12Peer.enc) (r.2.fPeers)))), obl := c0 = RoomTable.enc y0 i1 ∧ c1 = encM (kI .i64) (vA Antiphonref12Peer.enc) (y0.fPeers) ∧ (gRoomTableLeave y0 x1).isSome = true ∧ i0 ≠ i1 }) ((gRoomTableLeave y0 x1).getD dflt)) (RoomTable.dec c0 (decM dkI (dvA Antiphonref12Peer.dec) c1))
    | _ => none)
    | _ => none)
    | _ => none
  | _, _ => none

set_option maxHeartbeats 1000000 in
theorem gRoomTableLeave.ok : SpecOk Tryd.prog 16 gRoomTableLeave.S := by
  intro l M out h
  unfold gRoomTableLeave.S at h
  split at h
  · rename_i i0 x1
    split at h
    case h_2 => cases h
    rename_i c0 hM0
    split at h
    case h_2 => cases h
    rename_i i1 he1
    split at h
    case h_2 => cases h
    rename_i c1 hM1
    try dsimp only at h
    cases h
    refine callOk_of fun ho => ?_
    obtain ⟨oc0, oc1, hs, hne0⟩ := ho
    generalize (RoomTable.dec c0 (decM dkI (dvA Antiphonref12Peer.dec) c1)) = y0 at *
    subst oc0
    subst oc1
    obtain ⟨r, hr⟩ := Option.isSome_iff_exists.1 hs
    simp only [hr, Option.getD_some]
    have q := call_frame (M := M) [i0, i1] (gRoomTableLeave.can y0 x1 r hr) (by simp [hne0]) rfl (by intro k i hk; (cases k with | zero => (simp at hk; subst hk; simp [hM0, into]) | succ k => ((cases k with | zero => (simp at hk; subst hk; simp [hM1]) | succ k => (simp at hk)))))
    exact callOk_conv q trivial (by simp [into]) (by simp [frameOut, gRoomTableLeave.out, into]) (by simp [frameOut, gRoomTableLeave.out, into])
  · cases h

@[simp] def gRoomTableTogether.out (_x0 : RoomTable) (_x1 : Int) (_x2 : Int) (r : Bool) : Out := { av := .lit (.bool r), M := none }
def gRoomTableTogether.fin (x0 : RoomTable) (x1 : Int) (x2 : Int) (r : Bool) (σ : St) : Prop := finK (gRoomTableTogether.out x0 x1 x2 r) [.blk [.mp 1, .lit (.int .i64 x0.fNext)], .mapo (encM (kI .i64) (vA Antiphonref12Peer.enc) x0.fPeers)] σ.M (resA Tryd.ty σ.A σ.M Tryd.f14.results.toList)
set_option maxHeartbeats 4000000 in
set_option maxRecDepth 100000 in
theorem gRoomTableTogether.can (x0 : RoomTable) (x1 : Int) (x2 : Int) (r : Bool) (hr : gRoomTableTogether x0 x1 x2 = some r) : CallOk Tryd.prog 14 [.ptr 0 0, .lit (.int .i64 x1), .lit (.int .i64 x2)] [.blk [.mp 1, .lit (.int .i64 x0.fNext)], .mapo (encM (kI .i64) (vA Antiphonref12Peer.enc) x0.fPeers)] (gRoomTableTogether.out x0 x1 x2 r) := by
  unfold gRoomTableTogether at hr
  have hΓ := (gamL_cons gLabelSame.ok (gamL_nil) : GamOk Tryd.prog _)
  refine call_of_awp Tryd.tyOk Tryd.func14 rfl (by kernel_rfl) rfl rfl (by simp) ?_
  intro _ _ _
  refine AWp.then ⟨[⟨0, none, .ptr 0 0⟩, ⟨1, none, .lit (.int .i64 x1)⟩, ⟨2, none, .lit (.int .i64 x2)⟩], [.blk [.mp 1, .lit (.int .i64 x0.fNext)], .mapo (encM (kI .i64) (vA Antiphonref12Peer.enc) x0.fPeers)]⟩ (AWp.reg Tryd.tyOk hΓ (keep := []) (dead := []) (by kernel_rfl) rfl (by simp)) ?_
  refine AWp.then ⟨[⟨7, none, .ptr 2 0⟩, ⟨8, none, .lit (.bool (hasM eqI x1 x0.fPeers))⟩, ⟨0, none, .ptr 0 0⟩, ⟨1, none, .lit (.int .i64 x1)⟩, ⟨2, none, .lit (.int .i64 x2)⟩], [.blk [.mp 1, .lit (.int .i64 x0.fNext)], .mapo (encM (kI .i64) (vA Antiphonref12Peer.enc) x0.fPeers), .blk (getM eqI x1 (Antiphonref12Peer.mk 0 ⟨⟨[]⟩⟩ ⟨⟨[]⟩⟩) x0.fPeers).enc]⟩ (AWp.reg Tryd.tyOk hΓ (keep := [7, 8]) (dead := []) (by kernel_rfl) rfl (by simp)) ?_
  refine AWp.then ⟨[⟨9, none, .ptr 3 0⟩, ⟨10, none, .lit (.bool (hasM eqI x2 x0.fPeers))⟩, ⟨7, none, .ptr 2 0⟩, ⟨8, none, .lit (.bool (hasM eqI x1 x0.fPeers))⟩, ⟨1, none, .lit (.int .i64 x1)⟩, ⟨2, none, .lit (.int .i64 x2)⟩], [.blk [.mp 1, .lit (.int .i64 x0.fNext)], .mapo (encM (kI .i64) (vA Antiphonref12Peer.enc) x0.fPeers), .blk (getM eqI x1 (Antiphonref12Peer.mk 0 ⟨⟨[]⟩⟩ ⟨⟨[]⟩⟩) x0.fPeers).enc, .blk (getM eqI x2 (Antiphonref12Peer.mk 0 ⟨⟨[]⟩⟩ ⟨⟨[]⟩⟩) x0.fPeers).enc]⟩ (AWp.reg Tryd.tyOk hΓ (keep := [9, 10]) (dead := [0]) (by kernel_rfl) rfl (by simp)) ?_
  obtain ⟨h2, hr⟩ := need_some hr
  refine AWp.then ⟨[⟨6, none, .lit (.bool (pickB (pickB (pickB (hasM eqI x1 x0.fPeers) (hasM eqI x2 x0.fPeers) false) (neI x1 x2) false) ((gLabelSame ((getM eqI x1 (Antiphonref12Peer.mk 0 ⟨⟨[]⟩⟩ ⟨⟨[]⟩⟩) x0.fPeers).fRoom) ((getM eqI x2 (Antiphonref12Peer.mk 0 ⟨⟨[]⟩⟩ ⟨⟨[]⟩⟩) x0.fPeers).fRoom)).getD dflt) false))⟩], [.blk [.mp 1, .lit (.int .i64 x0.fNext)], .mapo (encM (kI .i64) (vA Antiphonref12Peer.enc) x0.fPeers), .blk (getM eqI x1 (Antiphonref12Peer.mk 0 ⟨⟨[]⟩⟩ ⟨⟨[]⟩⟩) x0.fPeers).enc, .blk (getM eqI x2 (Antiphonref12Peer.mk 0 ⟨⟨[]⟩⟩ ⟨⟨[]⟩⟩) x0.fPeers).enc]⟩ (AWp.reg Tryd.tyOk hΓ (keep := [6]) (dead := [9, 10, 7, 8, 1, 2]) (by kernel_rfl) rfl (by simp [h2])) ?_
  refine AWp.ret ?_
  obtain rfl := some_inj hr
  refine fin_ret ?_
  simp

@[simp] noncomputable def gRoomTableTogether.S : Sp
  | [.ptr i0 0, .lit (.int .i64 x1), .lit (.int .i64 x2)], M => match M[i0]? with
    | some (.blk c0) => (match nthE c0 0 with
    | some (.mp i1) => (match M[i1]? with
    | some (.mapo c1) => some { av := .lit (.bool ((gRoomTableTogether (RoomTable.dec c0 (decM dkI (dvA Antiphonref12Peer.dec) c1)) x1 x2).getD dflt)), M := none, obl := c0 = RoomTable.enc (RoomTable.dec c0 (decM dkI (dvA Antiphonref12Peer.dec) c1)) i1 ∧ c1 = encM (kI .i64) (vA Antiphonref12Peer.enc) ((RoomTable.dec c0 (decM dkI (dvA Antiphonref12Peer.dec) c1)).fPeers) ∧ (gRoomTableTogether (RoomTable.dec c0 (decM dkI (dvA Antiphonref12Peer.dec) c1)) x1 x2).isSome = true ∧ i0 ≠ i1 }
    | _ => none)
    | _ => none)
    | _ => none
  | _, _ => none

set_option maxHeartbeats 1000000 in
theorem gRoomTableTogether.ok : SpecOk Tryd.prog 14 gRoomTableTogether.S := by
  intro l M out h
  unfold gRoomTableTogether.S at h
  split at h
  · rename_i i0 x1 x2
    split at h
    case h_2 => cases h
    rename_i c0 hM0
    split at h
    case h_2 => cases h
    rename_i i1 he1
    split at h
    case h_2 => cases h
    rename_i c1 hM1
    cases h
    refine callOk_of fun ho => ?_
    obtain ⟨oc0, oc1, hs, hne0⟩ := ho
    generalize (RoomTable.dec c0 (decM dkI (dvA Antiphonref12Peer.dec) c1)) = y0 at *
    subst oc0
    subst oc1
    obtain ⟨r, hr⟩ := Option.isSome_iff_exists.1 hs
    simp only [hr, Option.getD_some]
    have q := call_frame (M := M) [i0, i1] (gRoomTableTogether.can y0 x1 x2 r hr) (by simp [hne0]) rfl (by intro k i hk; (cases k with | zero => (simp at hk; subst hk; simp [hM0, into]) | succ k => ((cases k with | zero => (simp at hk; subst hk; simp [hM1]) | succ k => (simp at hk)))))
    exact callOk_conv q trivial (by simp [into]) (by simp [frameOut, gRoomTableTogether.out, into]) (by simp only [frameOut, gRoomTableTogether.out, Option.getD_some, Option.getD_none]; simp [into, hM0, hM1, set_same])
  · cases h
end Go.Proofs

/- That these functions compute what their plain functions do. No condition. -/
import Derived.Test.YtefdnbpigfojcaaDoorM06
import Derived.Test.YtefdnbpigfojcaaDoorTy
import Derived.Test.YtefdnbpigfojcaaDoorLl
import Derived.Test.YtefdnbpigfojcaaDoorHb
import Derived.Test.YtefdnbpigfojcaaDoorM04
import Derived.Test.YtefdnbpigfojcaaDoorM10
import Derived.Test.YtefdnbpigfojcaaDoorM07
import Derived.Test.YtefdnbpigfojcaaDoorNb
import Derived.Test.YtefdnbpigfojcaaDoorHa
namespace Go.Proofs
open Go.Ab
@[simp] def gLaw12RoomNames.out (_x0 : ByteArray) (_x1 : ByteArray) (_x2 : ByteArray) (r : Bool) : Out := { av := .lit (.bool r), M := none }
def gLaw12RoomNames.fin (x0 : ByteArray) (x1 : ByteArray) (x2 : ByteArray) (r : Bool) (σ : St) : Prop := finK (gLaw12RoomNames.out x0 x1 x2 r) [] σ.M (resA Tryd.ty σ.A σ.M Tryd.f3.results.toList)
set_option maxHeartbeats 4000000 in
set_option maxRecDepth 100000 in
theorem gLaw12RoomNames.can (x0 : ByteArray) (x1 : ByteArray) (x2 : ByteArray) (r : Bool) (hr : gLaw12RoomNames x0 x1 x2 = some r) : CallOk Tryd.prog 3 [.lit (.string x0), .lit (.string x1), .lit (.string x2)] [] (gLaw12RoomNames.out x0 x1 x2 r) := by
  unfold gLaw12RoomNames at hr
  have hΓ := (gamL_cons gRoomTableJoin.ok (gamL_cons gRoomTableRooms.ok (gamL_cons gLaw01Cut.ok (gamL_cons gLaw12Awake.ok (gamL_cons gRef06Fold.ok (gamL_cons gRef06Good.ok (gamL_cons gRoomNew.ok (gamL_nil))))))) : GamOk Tryd.prog _)
  refine call_of_awp Tryd.tyOk Tryd.func3 rfl (by kernel_rfl) rfl rfl (by simp) ?_
  intro _ _ _
  refine AWp.then ⟨[⟨0, none, .lit (.string x0)⟩, ⟨1, none, .lit (.string x1)⟩, ⟨2, none, .lit (.string x2)⟩], []⟩ (AWp.reg Tryd.tyOk hΓ (keep := []) (dead := []) (by kernel_rfl) rfl (by simp)) ?_
  obtain ⟨r1, h18, hr⟩ := bind_some' hr
  obtain ⟨r2, h19, hr⟩ := bind_some' hr
  obtain ⟨r3, h20, hr⟩ := bind_some' hr
  refine AWp.then ⟨[⟨0, none, .lit (.string r1)⟩, ⟨1, none, .lit (.string r2)⟩, ⟨2, none, .lit (.string r3)⟩], []⟩ (AWp.reg Tryd.tyOk hΓ (keep := [0, 1, 2]) (dead := []) (by kernel_rfl) rfl (by simp [h18, h19, h20])) ?_
  refine AWp.seq ?_
  obtain ⟨r4, h21, hr⟩ := bind_some' hr
  obtain ⟨h22, hr⟩ := need_some hr
  obtain ⟨h23, hr⟩ := need_some hr
  obtain ⟨h24, hr⟩ := need_some hr
  refine AWp.then ⟨[⟨35, none, .lit (.bool (pickB (pickB (pickB (notB r4) true (notB ((gRef06Good r1).getD dflt))) true (notB ((gRef06Good r2).getD dflt))) true (notB ((gRef06Good r3).getD dflt))))⟩, ⟨0, none, .lit (.string r1)⟩, ⟨1, none, .lit (.string r2)⟩, ⟨2, none, .lit (.string r3)⟩], []⟩ (AWp.reg Tryd.tyOk hΓ (keep := [35]) (dead := []) (by kernel_rfl) rfl (by simp [h21, h22, h23, h24])) ?_
  refine AWp.cond (b := (pickB (pickB (pickB (notB r4) true (notB ((gRef06Good r1).getD dflt))) true (notB ((gRef06Good r2).getD dflt))) true (notB ((gRef06Good r3).getD dflt)))) (by simp) (fun h25 => ?_) (fun h25 => ?_)
  · have hr := cond_t h25 hr
    refine AWp.then ⟨[⟨6, none, .lit (.bool r4)⟩], []⟩ (AWp.reg Tryd.tyOk hΓ (keep := [6]) (dead := [35, 0, 1, 2]) (by kernel_rfl) rfl (by simp [h21, h25])) ?_
    refine AWp.ret ?_
    obtain rfl := some_inj hr
    refine fin_ret ?_
    simp
  · have hr := cond_f h25 hr
    refine AWp.skip ?_
    obtain ⟨r5, h26, hr⟩ := bind_some' hr
    refine AWp.then ⟨[⟨7, none, .ptr 1 0⟩, ⟨0, none, .lit (.string r1)⟩, ⟨1, none, .lit (.string r2)⟩, ⟨2, none, .lit (.string r3)⟩], [.mapo (encM (kI .i64) (vA Antiphonref12Peer.enc) r5.fPeers), .blk [.mp 0, .lit (.int .i64 r5.fNext)]]⟩ (AWp.reg Tryd.tyOk hΓ (keep := [7]) (dead := [35]) (by kernel_rfl) rfl (by simp [h25, h26])) ?_
    obtain ⟨r6, h27, hr⟩ := bind_some' hr
    refine AWp.then ⟨[⟨9, none, .lit (.int .i64 r6.2.1)⟩, ⟨7, none, .ptr 1 0⟩, ⟨0, none, .lit (.string r1)⟩, ⟨1, none, .lit (.string r2)⟩, ⟨2, none, .lit (.string r3)⟩], [.mapo (encM (kI .i64) (vA Antiphonref12Peer.enc) r6.2.2.fPeers), .blk [.mp 0, .lit (.int .i64 r6.2.2.fNext)]]⟩ (AWp.reg Tryd.tyOk hΓ (keep := [9]) (dead := []) (by kernel_rfl) rfl (by simp [h27])) ?_
    obtain ⟨r7, h28, hr⟩ := bind_some' hr
    obtain ⟨r8, h29, hr⟩ := bind_some' hr
    refine AWp.then ⟨[⟨11, none, .lit (.int .i64 r8.2.1)⟩, ⟨9, none, .lit (.int .i64 r6.2.1)⟩, ⟨7, none, .ptr 1 0⟩, ⟨0, none, .lit (.string r1)⟩, ⟨1, none, .lit (.string r2)⟩, ⟨2, none, .lit (.string r3)⟩], [.mapo (encM (kI .i64) (vA Antiphonref12Peer.enc) r8.2.2.fPeers), .blk [.mp 0, .lit (.int .i64 r8.2.2.fNext)]]⟩ (AWp.reg Tryd.tyOk hΓ (keep := [11]) (dead := []) (by kernel_rfl) rfl (by simp [h28, h29])) ?_
    obtain ⟨r9, h30, hr⟩ := bind_some' hr
    obtain ⟨r10, h31, hr⟩ := bind_some' hr
    refine AWp.then ⟨[⟨12, none, .lit (.bool (eqS r9 r10))⟩, ⟨11, none, .lit (.int .i64 r8.2.1)⟩, ⟨9, none, .lit (.int .i64 r6.2.1)⟩, ⟨7, none, .ptr 1 0⟩, ⟨0, none, .lit (.string r1)⟩], [.mapo (encM (kI .i64) (vA Antiphonref12Peer.enc) r8.2.2.fPeers), .blk [.mp 0, .lit (.int .i64 r8.2.2.fNext)]]⟩ (AWp.reg Tryd.tyOk hΓ (keep := [12]) (dead := [1, 2]) (by kernel_rfl) rfl (by simp [h30, h31])) ?_
    refine AWp.seq ?_
    obtain ⟨r11, h32, hr⟩ := bind_some' hr
    refine AWp.then ⟨[⟨63, none, .lit (.bool (neS r11 r7))⟩, ⟨12, none, .lit (.bool (eqS r9 r10))⟩, ⟨11, none, .lit (.int .i64 r8.2.1)⟩, ⟨9, none, .lit (.int .i64 r6.2.1)⟩, ⟨7, none, .ptr 1 0⟩], [.mapo (encM (kI .i64) (vA Antiphonref12Peer.enc) r8.2.2.fPeers), .blk [.mp 0, .lit (.int .i64 r8.2.2.fNext)]]⟩ (AWp.reg Tryd.tyOk hΓ (keep := [63]) (dead := [0]) (by kernel_rfl) rfl (by simp [h28, h32])) ?_
    refine AWp.cond (b := (neS r11 r7)) (by simp) (fun h33 => ?_) (fun h33 => ?_)
    · have hr := cond_t h33 hr
      refine AWp.then ⟨[⟨6, none, .lit (.bool (eqI r6.2.1 0))⟩], [.mapo (encM (kI .i64) (vA Antiphonref12Peer.enc) r8.2.2.fPeers), .blk [.mp 0, .lit (.int .i64 r8.2.2.fNext)]]⟩ (AWp.reg Tryd.tyOk hΓ (keep := [6]) (dead := [63, 12, 11, 9, 7]) (by kernel_rfl) rfl (by simp [h33])) ?_
      refine AWp.ret ?_
      obtain rfl := some_inj hr
      refine fin_ret ?_
      simp
    · have hr := cond_f h33 hr
      refine AWp.skip ?_
      obtain ⟨h34, hr⟩ := need_some hr
      refine AWp.then ⟨[⟨6, none, .lit (.bool (pickB (pickB (pickB (eqI r6.2.1 0) (eqB (eqI r8.2.1 10) (eqS r9 r10)) false) (eqB (eqI r8.2.1 0) (notB (eqS r9 r10))) false) (eqI (lenL ((gRoomTableRooms r8.2.2).getD dflt)) 1) false))⟩], [.mapo (encM (kI .i64) (vA Antiphonref12Peer.enc) r8.2.2.fPeers), .blk [.mp 0, .lit (.int .i64 r8.2.2.fNext)]]⟩ (AWp.reg Tryd.tyOk hΓ (keep := [6]) (dead := [63, 12, 11, 9, 7]) (by kernel_rfl) rfl (by simp [h33, h34])) ?_
      refine AWp.ret ?_
      obtain rfl := some_inj hr
      refine fin_ret ?_
      simp

@[simp] noncomputable def gLaw12RoomNames.S : Sp
  | [.lit (.string x0), .lit (.string x1), .lit (.string x2)], _ => some { av := .lit (.bool ((gLaw12RoomNames x0 x1 x2).getD dflt)), M := none, obl := (gLaw12RoomNames x0 x1 x2).isSome = true }
  | _, _ => none

set_option maxHeartbeats 1000000 in
theorem gLaw12RoomNames.ok : SpecOk Tryd.prog 3 gLaw12RoomNames.S := by
  intro l M out h
  unfold gLaw12RoomNames.S at h
  split at h
  · rename_i x0 x1 x2
    cases h
    refine callOk_of fun ho => ?_
    have hs := ho
    obtain ⟨r, hr⟩ := Option.isSome_iff_exists.1 hs
    simp only [hr, Option.getD_some]
    have q := call_frame (M := M) [] (gLaw12RoomNames.can x0 x1 x2 r hr) (by simp) rfl (by intro k i hk; simp at hk)
    exact callOk_conv q trivial (by simp) (by simp [frameOut, gLaw12RoomNames.out]) (by simp [frameOut, gLaw12RoomNames.out])
  · cases h
end Go.Proofs

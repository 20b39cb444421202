/- That these functions compute what their plain functions do. No condition. -/
import Derived.Test.YtefdnbpigfojcaaDoorM10
import Derived.Test.YtefdnbpigfojcaaDoorTy
import Derived.Test.YtefdnbpigfojcaaDoorLl
import Derived.Test.YtefdnbpigfojcaaDoorHb
import Derived.Test.YtefdnbpigfojcaaDoorHa
import Derived.Test.YtefdnbpigfojcaaDoorM07
namespace Go.Proofs
open Go.Ab
@[simp] def gLaw12RoomTogether.out (_x0 : List Int) (r : Bool) : Out := { av := .lit (.bool r), M := none }
def gLaw12RoomTogether.fin (x0 : List Int) (r : Bool) (σ : St) : Prop := finK (gLaw12RoomTogether.out x0 r) [] σ.M (resA Tryd.ty σ.A σ.M Tryd.f4.results.toList)
set_option maxHeartbeats 4000000 in
set_option maxRecDepth 100000 in
theorem gLaw12RoomTogether.can (x0 : List Int) (r : Bool) (hr : gLaw12RoomTogether x0 = some r) : CallOk Tryd.prog 4 [.sl (x0.map (eNum .i64)) .no] [] (gLaw12RoomTogether.out x0 r) := by
  unfold gLaw12RoomTogether at hr
  have hΓ := (gamL_cons gRoomTableJoin.ok (gamL_cons gRoomTableTogether.ok (gamL_cons gLaw12Awake.ok (gamL_cons gRoomNew.ok (gamL_nil)))) : GamOk Tryd.prog _)
  refine call_of_awp Tryd.tyOk Tryd.func4 rfl (by kernel_rfl) rfl rfl (by simp) ?_
  intro _ _ _
  refine AWp.then ⟨[⟨0, none, .sl (x0.map (eNum .i64)) .no⟩], []⟩ (AWp.reg Tryd.tyOk hΓ (keep := []) (dead := []) (by kernel_rfl) rfl (by simp)) ?_
  refine AWp.seq ?_
  obtain ⟨r1, h19, hr⟩ := bind_some' hr
  refine AWp.then ⟨[⟨12, none, .lit (.bool (notB r1))⟩, ⟨0, none, .sl (x0.map (eNum .i64)) .no⟩], []⟩ (AWp.reg Tryd.tyOk hΓ (keep := [12]) (dead := []) (by kernel_rfl) rfl (by simp [h19])) ?_
  refine AWp.cond (b := (notB r1)) (by simp) (fun h20 => ?_) (fun h20 => ?_)
  · have hr := cond_t h20 hr
    refine AWp.then ⟨[⟨2, none, .lit (.bool false)⟩], []⟩ (AWp.reg Tryd.tyOk hΓ (keep := [2]) (dead := [12, 0]) (by kernel_rfl) rfl (by simp [h20])) ?_
    refine AWp.ret ?_
    obtain rfl := some_inj hr
    refine fin_ret ?_
    simp
  · have hr := cond_f h20 hr
    refine AWp.skip ?_
    obtain ⟨r2, h21, hr⟩ := bind_some' hr
    refine AWp.then ⟨[⟨3, none, .ptr 1 0⟩, ⟨0, none, .sl (x0.map (eNum .i64)) .no⟩], [.mapo (encM (kI .i64) (vA Antiphonref12Peer.enc) r2.fPeers), .blk [.mp 0, .lit (.int .i64 r2.fNext)]]⟩ (AWp.reg Tryd.tyOk hΓ (keep := [3]) (dead := [12]) (by kernel_rfl) rfl (by simp [h20, h21])) ?_
    refine AWp.then ⟨[⟨4, none, .sl [] .full⟩, ⟨3, none, .ptr 1 0⟩, ⟨0, none, .sl (x0.map (eNum .i64)) .no⟩], [.mapo (encM (kI .i64) (vA Antiphonref12Peer.enc) r2.fPeers), .blk [.mp 0, .lit (.int .i64 r2.fNext)]]⟩ (AWp.reg Tryd.tyOk hΓ (keep := [4]) (dead := []) (by kernel_rfl) rfl (by simp)) ?_
    refine AWp.seq ?_
    refine AWp.then ⟨[⟨5, none, .lit (.int .i64 0)⟩, ⟨4, none, .sl [] .full⟩, ⟨3, none, .ptr 1 0⟩, ⟨0, none, .sl (x0.map (eNum .i64)) .no⟩], [.mapo (encM (kI .i64) (vA Antiphonref12Peer.enc) r2.fPeers), .blk [.mp 0, .lit (.int .i64 r2.fNext)]]⟩ (AWp.reg Tryd.tyOk hΓ (keep := [5]) (dead := []) (by kernel_rfl) rfl (by simp)) ?_
    refine AWp.equip 4 1 (els := []) (by simp) (by simp) ?_
    refine AWp.loopE (fun (s1 : Int × List Int × (List (Int × Antiphonref12Peer)) × Int) (γ1 : Nat) => ⟨[⟨5, none, .lit (.int .i64 s1.1)⟩, ⟨4, none, .sl (s1.2.1.map (eNum .i64)) (.own 2 (γ1) 1)⟩, ⟨3, none, .ptr 1 0⟩, ⟨0, none, .sl (x0.map (eNum .i64)) .no⟩], [.mapo (encM (kI .i64) (vA Antiphonref12Peer.enc) s1.2.2.1), .blk [.mp 0, .lit (.int .i64 s1.2.2.2)], .room (γ1)]⟩) (fun (v1 : List Int × (List (Int × Antiphonref12Peer)) × Int) (γ1a : Nat) => ⟨[⟨4, none, .sl (v1.1.map (eNum .i64)) (.own 2 (γ1a) 1)⟩, ⟨3, none, .ptr 1 0⟩], [.mapo (encM (kI .i64) (vA Antiphonref12Peer.enc) v1.2.1), .blk [.mp 0, .lit (.int .i64 v1.2.2)], .room (γ1a)]⟩) (gLaw12RoomTogether.fin x0) hr 0 3 (by simp) (fun s1 f γ1 hr => ?_) (fun v1 γ1a σ1 m1 hr hc => ?_) (fun _ h => h)
    · unfold gLaw12RoomTogether.loop1 at hr
      refine AWp.seq ?_
      refine AWp.then ⟨[⟨22, none, .lit (.bool (pickB (ltI s1.1 (lenL x0)) (ltI s1.1 30) false))⟩, ⟨5, none, .lit (.int .i64 s1.1)⟩, ⟨4, none, .sl (s1.2.1.map (eNum .i64)) (.own 2 (γ1) 1)⟩, ⟨3, none, .ptr 1 0⟩, ⟨0, none, .sl (x0.map (eNum .i64)) .no⟩], [.mapo (encM (kI .i64) (vA Antiphonref12Peer.enc) s1.2.2.1), .blk [.mp 0, .lit (.int .i64 s1.2.2.2)], .room (γ1)]⟩ (AWp.reg Tryd.tyOk hΓ (keep := [22]) (dead := []) (by kernel_rfl) rfl (by simp)) ?_
      refine AWp.cond (b := (pickB (ltI s1.1 (lenL x0)) (ltI s1.1 30) false)) (by simp) (fun h22 => ?_) (fun h22 => ?_)
      · have hr := cond_t h22 hr
        refine AWp.skip ?_
        refine AWp.seq ?_
        refine AWp.block ?_
        obtain ⟨h23, hr⟩ := need_some hr
        refine AWp.then ⟨[⟨6, none, .lit (.int .i64 (bitsOp .and .i64 (nthI x0 s1.1) 3))⟩, ⟨5, none, .lit (.int .i64 s1.1)⟩, ⟨4, none, .sl (s1.2.1.map (eNum .i64)) (.own 2 (γ1) 1)⟩, ⟨3, none, .ptr 1 0⟩, ⟨0, none, .sl (x0.map (eNum .i64)) .no⟩], [.mapo (encM (kI .i64) (vA Antiphonref12Peer.enc) s1.2.2.1), .blk [.mp 0, .lit (.int .i64 s1.2.2.2)], .room (γ1)]⟩ (AWp.reg Tryd.tyOk hΓ (keep := [6]) (dead := [22]) (by kernel_rfl) rfl (by simp [h22, h23])) ?_
        refine AWp.seq ?_
        obtain ⟨h24, hr⟩ := need_some hr
        obtain ⟨h25, hr⟩ := need_some hr
        obtain ⟨r3, h26, hr⟩ := bind_some' hr
        refine AWp.then ⟨[⟨8, none, .lit (.int .i64 r3.2.1)⟩, ⟨6, none, .lit (.int .i64 (bitsOp .and .i64 (nthI x0 s1.1) 3))⟩, ⟨5, none, .lit (.int .i64 s1.1)⟩, ⟨4, none, .sl (s1.2.1.map (eNum .i64)) (.own 2 (γ1) 1)⟩, ⟨3, none, .ptr 1 0⟩, ⟨0, none, .sl (x0.map (eNum .i64)) .no⟩], [.mapo (encM (kI .i64) (vA Antiphonref12Peer.enc) r3.2.2.fPeers), .blk [.mp 0, .lit (.int .i64 r3.2.2.fNext)], .room (γ1)]⟩ (AWp.reg Tryd.tyOk hΓ (keep := [8]) (dead := []) (by kernel_rfl) rfl (by simp [h24, h25, h26])) ?_
        refine AWp.then ⟨[⟨45, none, .lit (.bool (neI r3.2.1 0))⟩, ⟨6, none, .lit (.int .i64 (bitsOp .and .i64 (nthI x0 s1.1) 3))⟩, ⟨5, none, .lit (.int .i64 s1.1)⟩, ⟨4, none, .sl (s1.2.1.map (eNum .i64)) (.own 2 (γ1) 1)⟩, ⟨3, none, .ptr 1 0⟩, ⟨0, none, .sl (x0.map (eNum .i64)) .no⟩], [.mapo (encM (kI .i64) (vA Antiphonref12Peer.enc) r3.2.2.fPeers), .blk [.mp 0, .lit (.int .i64 r3.2.2.fNext)], .room (γ1)]⟩ (AWp.reg Tryd.tyOk hΓ (keep := [45]) (dead := [8]) (by kernel_rfl) rfl (by simp)) ?_
        refine AWp.cond (b := (neI r3.2.1 0)) (by simp) (fun h27 => ?_) (fun h27 => ?_)
        · have hr := cond_t h27 hr
          refine AWp.then ⟨[⟨2, none, .lit (.bool (leqI 16 (lenL s1.2.1)))⟩], [.mapo (encM (kI .i64) (vA Antiphonref12Peer.enc) r3.2.2.fPeers), .blk [.mp 0, .lit (.int .i64 r3.2.2.fNext)], .room (γ1)]⟩ (AWp.reg Tryd.tyOk hΓ (keep := [2]) (dead := [45, 6, 5, 4, 3, 0]) (by kernel_rfl) rfl (by simp [h27])) ?_
          refine AWp.ret ?_
          obtain rfl := some_inj hr
          refine round_ret ?_
          refine fin_ret ?_
          simp
        · have hr := cond_f h27 hr
          refine AWp.skip ?_
          obtain ⟨h28, hr⟩ := need_some hr
          obtain ⟨h29, hr⟩ := need_some hr
          refine AWp.last ⟨[⟨4, none, .sl ((appL s1.2.1 [(nthI [0, 1, 1, 2] (bitsOp .and .i64 (nthI x0 s1.1) 3))]).map (eNum .i64)) (.own 2 (γ1 + 1) 1)⟩, ⟨5, none, .lit (.int .i64 s1.1)⟩, ⟨3, none, .ptr 1 0⟩, ⟨0, none, .sl (x0.map (eNum .i64)) .no⟩], [.mapo (encM (kI .i64) (vA Antiphonref12Peer.enc) r3.2.2.fPeers), .blk [.mp 0, .lit (.int .i64 r3.2.2.fNext)], .room (γ1 + 1)]⟩ (AWp.reg Tryd.tyOk hΓ (keep := [4]) (dead := [45, 6]) (by kernel_rfl) rfl (by simp [h24, h27, h29])) ?_
          refine AWp.last ⟨[⟨5, none, .lit (.int .i64 (addI .i64 s1.1 1))⟩, ⟨4, none, .sl ((appL s1.2.1 [(nthI [0, 1, 1, 2] (bitsOp .and .i64 (nthI x0 s1.1) 3))]).map (eNum .i64)) (.own 2 (γ1 + 1) 1)⟩, ⟨3, none, .ptr 1 0⟩, ⟨0, none, .sl (x0.map (eNum .i64)) .no⟩], [.mapo (encM (kI .i64) (vA Antiphonref12Peer.enc) r3.2.2.fPeers), .blk [.mp 0, .lit (.int .i64 r3.2.2.fNext)], .room (γ1 + 1)]⟩ (AWp.reg Tryd.tyOk hΓ (keep := [5]) (dead := []) (by kernel_rfl) rfl (by simp)) ?_
          obtain rfl := some_inj hr
          exact round_go (γ1 + 1) 3 (by first | (simp; done) | simp [h19, h20, h21, h22, h23, h24, h25, h26, h27, h28, h29])
      · have hr := cond_f h22 hr
        refine AWp.exit ?_
        obtain rfl := some_inj hr
        exact round_out (γ1) 3 (by first | (simp; done) | simp [h19, h20, h21, h22])
    · refine AWp.conv hc ?_
      refine AWp.seq ?_
      refine AWp.then ⟨[⟨57, none, .lit (.int .i64 (lenL v1.1))⟩, ⟨58, none, .lit (.int .i64 0)⟩, ⟨4, none, .sl (v1.1.map (eNum .i64)) (.own 2 (γ1a) 1)⟩, ⟨3, none, .ptr 1 0⟩], [.mapo (encM (kI .i64) (vA Antiphonref12Peer.enc) v1.2.1), .blk [.mp 0, .lit (.int .i64 v1.2.2)], .room (γ1a)]⟩ (AWp.reg Tryd.tyOk hΓ (keep := [57, 58]) (dead := []) (by kernel_rfl) rfl (by simp)) ?_
      refine AWp.loopE (fun (s2 : Int) (γ2 : Unit) => ⟨[⟨57, none, .lit (.int .i64 (lenL v1.1))⟩, ⟨58, none, .lit (.int .i64 s2)⟩, ⟨4, none, .sl (v1.1.map (eNum .i64)) (.own 2 (γ1a) 1)⟩, ⟨3, none, .ptr 1 0⟩], [.mapo (encM (kI .i64) (vA Antiphonref12Peer.enc) v1.2.1), .blk [.mp 0, .lit (.int .i64 v1.2.2)], .room (γ1a)]⟩) (fun (v2 : Unit) (γ2a : Unit) => ⟨[⟨3, none, .ptr 1 0⟩], [.mapo (encM (kI .i64) (vA Antiphonref12Peer.enc) v1.2.1), .blk [.mp 0, .lit (.int .i64 v1.2.2)], .room (γ1a)]⟩) (gLaw12RoomTogether.fin x0) hr () 3 (by simp) (fun s2 f γ2 hr => ?_) (fun v2 γ2a σ1 m1 hr hc => ?_) (fun _ h => h)
      · unfold gLaw12RoomTogether.loop2 at hr
        refine AWp.then ⟨[⟨59, none, .lit (.bool (ltI s2 (lenL v1.1)))⟩, ⟨57, none, .lit (.int .i64 (lenL v1.1))⟩, ⟨58, none, .lit (.int .i64 s2)⟩, ⟨4, none, .sl (v1.1.map (eNum .i64)) (.own 2 (γ1a) 1)⟩, ⟨3, none, .ptr 1 0⟩], [.mapo (encM (kI .i64) (vA Antiphonref12Peer.enc) v1.2.1), .blk [.mp 0, .lit (.int .i64 v1.2.2)], .room (γ1a)]⟩ (AWp.reg Tryd.tyOk hΓ (keep := [59]) (dead := []) (by kernel_rfl) rfl (by simp)) ?_
        refine AWp.seq ?_
        refine AWp.cond (b := (ltI s2 (lenL v1.1))) (by simp) (fun h30 => ?_) (fun h30 => ?_)
        · have hr := cond_t h30 hr
          refine AWp.skip ?_
          refine AWp.seq ?_
          refine AWp.block ?_
          refine AWp.then ⟨[⟨9, none, .lit (.int .i64 s2)⟩, ⟨57, none, .lit (.int .i64 (lenL v1.1))⟩, ⟨58, none, .lit (.int .i64 s2)⟩, ⟨4, none, .sl (v1.1.map (eNum .i64)) (.own 2 (γ1a) 1)⟩, ⟨3, none, .ptr 1 0⟩], [.mapo (encM (kI .i64) (vA Antiphonref12Peer.enc) v1.2.1), .blk [.mp 0, .lit (.int .i64 v1.2.2)], .room (γ1a)]⟩ (AWp.reg Tryd.tyOk hΓ (keep := [9]) (dead := [59]) (by kernel_rfl) rfl (by simp [h30])) ?_
          refine AWp.then ⟨[⟨62, none, .lit (.int .i64 (lenL v1.1))⟩, ⟨63, none, .lit (.int .i64 0)⟩, ⟨9, none, .lit (.int .i64 s2)⟩, ⟨57, none, .lit (.int .i64 (lenL v1.1))⟩, ⟨58, none, .lit (.int .i64 s2)⟩, ⟨4, none, .sl (v1.1.map (eNum .i64)) (.own 2 (γ1a) 1)⟩, ⟨3, none, .ptr 1 0⟩], [.mapo (encM (kI .i64) (vA Antiphonref12Peer.enc) v1.2.1), .blk [.mp 0, .lit (.int .i64 v1.2.2)], .room (γ1a)]⟩ (AWp.reg Tryd.tyOk hΓ (keep := [62, 63]) (dead := []) (by kernel_rfl) rfl (by simp)) ?_
          refine AWp.loopE (fun (s3 : Int) (γ3 : Unit) => ⟨[⟨62, none, .lit (.int .i64 (lenL v1.1))⟩, ⟨63, none, .lit (.int .i64 s3)⟩, ⟨9, none, .lit (.int .i64 s2)⟩, ⟨57, none, .lit (.int .i64 (lenL v1.1))⟩, ⟨58, none, .lit (.int .i64 s2)⟩, ⟨4, none, .sl (v1.1.map (eNum .i64)) (.own 2 (γ1a) 1)⟩, ⟨3, none, .ptr 1 0⟩], [.mapo (encM (kI .i64) (vA Antiphonref12Peer.enc) v1.2.1), .blk [.mp 0, .lit (.int .i64 v1.2.2)], .room (γ1a)]⟩) (fun (v3 : Unit) (γ3a : Unit) => ⟨[⟨57, none, .lit (.int .i64 (lenL v1.1))⟩, ⟨58, none, .lit (.int .i64 s2)⟩, ⟨4, none, .sl (v1.1.map (eNum .i64)) (.own 2 (γ1a) 1)⟩, ⟨3, none, .ptr 1 0⟩], [.mapo (encM (kI .i64) (vA Antiphonref12Peer.enc) v1.2.1), .blk [.mp 0, .lit (.int .i64 v1.2.2)], .room (γ1a)]⟩) (QRr (gLaw12RoomTogether.fin x0)) hr () 3 (by simp) (fun s3 f γ3 hr => ?_) (fun v3 γ3a σ1 m1 hr hc => ?_) (fun _ h => QRr_ret h)
          · unfold gLaw12RoomTogether.loop3 at hr
            refine AWp.then ⟨[⟨64, none, .lit (.bool (ltI s3 (lenL v1.1)))⟩, ⟨62, none, .lit (.int .i64 (lenL v1.1))⟩, ⟨63, none, .lit (.int .i64 s3)⟩, ⟨9, none, .lit (.int .i64 s2)⟩, ⟨57, none, .lit (.int .i64 (lenL v1.1))⟩, ⟨58, none, .lit (.int .i64 s2)⟩, ⟨4, none, .sl (v1.1.map (eNum .i64)) (.own 2 (γ1a) 1)⟩, ⟨3, none, .ptr 1 0⟩], [.mapo (encM (kI .i64) (vA Antiphonref12Peer.enc) v1.2.1), .blk [.mp 0, .lit (.int .i64 v1.2.2)], .room (γ1a)]⟩ (AWp.reg Tryd.tyOk hΓ (keep := [64]) (dead := []) (by kernel_rfl) rfl (by simp)) ?_
            refine AWp.seq ?_
            refine AWp.cond (b := (ltI s3 (lenL v1.1))) (by simp) (fun h31 => ?_) (fun h31 => ?_)
            · have hr := cond_t h31 hr
              refine AWp.skip ?_
              refine AWp.seq ?_
              refine AWp.block ?_
              refine AWp.then ⟨[⟨10, none, .lit (.int .i64 s3)⟩, ⟨62, none, .lit (.int .i64 (lenL v1.1))⟩, ⟨63, none, .lit (.int .i64 s3)⟩, ⟨9, none, .lit (.int .i64 s2)⟩, ⟨57, none, .lit (.int .i64 (lenL v1.1))⟩, ⟨58, none, .lit (.int .i64 s2)⟩, ⟨4, none, .sl (v1.1.map (eNum .i64)) (.own 2 (γ1a) 1)⟩, ⟨3, none, .ptr 1 0⟩], [.mapo (encM (kI .i64) (vA Antiphonref12Peer.enc) v1.2.1), .blk [.mp 0, .lit (.int .i64 v1.2.2)], .room (γ1a)]⟩ (AWp.reg Tryd.tyOk hΓ (keep := [10]) (dead := [64]) (by kernel_rfl) rfl (by simp [h31])) ?_
              obtain ⟨r4, h32, hr⟩ := bind_some' hr
              obtain ⟨h33, hr⟩ := need_some hr
              obtain ⟨h34, hr⟩ := need_some hr
              refine AWp.then ⟨[⟨84, none, .lit (.bool (neB r4 (pickB (neI s2 s3) (eqI (nthI v1.1 s2) (nthI v1.1 s3)) false)))⟩, ⟨62, none, .lit (.int .i64 (lenL v1.1))⟩, ⟨63, none, .lit (.int .i64 s3)⟩, ⟨9, none, .lit (.int .i64 s2)⟩, ⟨57, none, .lit (.int .i64 (lenL v1.1))⟩, ⟨58, none, .lit (.int .i64 s2)⟩, ⟨4, none, .sl (v1.1.map (eNum .i64)) (.own 2 (γ1a) 1)⟩, ⟨3, none, .ptr 1 0⟩], [.mapo (encM (kI .i64) (vA Antiphonref12Peer.enc) v1.2.1), .blk [.mp 0, .lit (.int .i64 v1.2.2)], .room (γ1a)]⟩ (AWp.regD Tryd.mixed Tryd.tyOk hΓ (keep := [84]) (dead := [10]) [] [(false, []), (false, []), (false, []), (false, []), (false, []), (false, []), (false, []), (false, []), (false, [73]), (false, [73]), (false, [73]), (false, [73]), (false, [73]), (false, [73]), (false, [73]), (false, [73]), (false, [73]), (false, []), (false, [])] (by kernel_rfl) rfl (by simp [h32, h33, h34])) ?_
              refine AWp.cond (b := (neB r4 (pickB (neI s2 s3) (eqI (nthI v1.1 s2) (nthI v1.1 s3)) false))) (by simp) (fun h35 => ?_) (fun h35 => ?_)
              · have hr := cond_t h35 hr
                refine AWp.then ⟨[⟨2, none, .lit (.bool false)⟩], [.mapo (encM (kI .i64) (vA Antiphonref12Peer.enc) v1.2.1), .blk [.mp 0, .lit (.int .i64 v1.2.2)], .room (γ1a)]⟩ (AWp.reg Tryd.tyOk hΓ (keep := [2]) (dead := [84, 62, 63, 9, 57, 58, 4, 3]) (by kernel_rfl) rfl (by simp [h35])) ?_
                refine AWp.ret ?_
                obtain rfl := some_inj hr
                refine round_ret ?_
                refine ⟨_, rfl, ?_⟩
                refine fin_ret ?_
                simp
              · have hr := cond_f h35 hr
                refine AWp.skip ?_
                refine AWp.last ⟨[⟨63, none, .lit (.int .i64 (addI .i64 s3 1))⟩, ⟨62, none, .lit (.int .i64 (lenL v1.1))⟩, ⟨9, none, .lit (.int .i64 s2)⟩, ⟨57, none, .lit (.int .i64 (lenL v1.1))⟩, ⟨58, none, .lit (.int .i64 s2)⟩, ⟨4, none, .sl (v1.1.map (eNum .i64)) (.own 2 (γ1a) 1)⟩, ⟨3, none, .ptr 1 0⟩], [.mapo (encM (kI .i64) (vA Antiphonref12Peer.enc) v1.2.1), .blk [.mp 0, .lit (.int .i64 v1.2.2)], .room (γ1a)]⟩ (AWp.reg Tryd.tyOk hΓ (keep := [63]) (dead := [84]) (by kernel_rfl) rfl (by simp [h35])) ?_
                obtain rfl := some_inj hr
                exact round_go () 3 (by first | (simp; done) | simp [h19, h20, h21, h30, h31, h32, h33, h34, h35])
            · have hr := cond_f h31 hr
              refine AWp.exit ?_
              obtain rfl := some_inj hr
              exact round_out () 3 (by first | (simp; done) | simp [h19, h20, h21, h30, h31])
          · refine AWp.conv hc ?_
            refine AWp.last ⟨[⟨58, none, .lit (.int .i64 (addI .i64 s2 1))⟩, ⟨57, none, .lit (.int .i64 (lenL v1.1))⟩, ⟨4, none, .sl (v1.1.map (eNum .i64)) (.own 2 (γ1a) 1)⟩, ⟨3, none, .ptr 1 0⟩], [.mapo (encM (kI .i64) (vA Antiphonref12Peer.enc) v1.2.1), .blk [.mp 0, .lit (.int .i64 v1.2.2)], .room (γ1a)]⟩ (AWp.reg Tryd.tyOk hΓ (keep := [58]) (dead := []) (by kernel_rfl) rfl (by simp)) ?_
            obtain rfl := some_inj hr
            exact round_go () 3 (by first | (simp; done) | simp [h19, h20, h21, h30])
        · have hr := cond_f h30 hr
          refine AWp.exit ?_
          obtain rfl := some_inj hr
          exact round_out () 3 (by first | (simp; done) | simp [h19, h20, h21, h30])
      · refine AWp.conv hc ?_
        obtain ⟨r5, h36, hr⟩ := bind_some' hr
        refine AWp.then ⟨[⟨2, none, .lit (.bool (notB r5))⟩], [.mapo (encM (kI .i64) (vA Antiphonref12Peer.enc) v1.2.1), .blk [.mp 0, .lit (.int .i64 v1.2.2)], .room (γ1a)]⟩ (AWp.reg Tryd.tyOk hΓ (keep := [2]) (dead := [3]) (by kernel_rfl) rfl (by simp [h36])) ?_
        refine AWp.ret ?_
        obtain rfl := some_inj hr
        refine fin_ret ?_
        simp

@[simp] noncomputable def gLaw12RoomTogether.S : Sp
  | [.sl e0 _], _ => some { av := .lit (.bool ((gLaw12RoomTogether (e0.map decI)).getD dflt)), M := none, obl := e0 = (e0.map decI).map (eNum .i64) ∧ (gLaw12RoomTogether (e0.map decI)).isSome = true }
  | _, _ => none

set_option maxHeartbeats 1000000 in
theorem gLaw12RoomTogether.ok : SpecOk Tryd.prog 4 gLaw12RoomTogether.S := by
  intro l M out h
  unfold gLaw12RoomTogether.S at h
  split at h
  · rename_i e0 k0
    cases h
    refine callOk_of fun ho => ?_
    obtain ⟨ox0, hs⟩ := ho
    generalize (e0.map decI) = x0 at *
    subst ox0
    obtain ⟨r, hr⟩ := Option.isSome_iff_exists.1 hs
    simp only [hr, Option.getD_some]
    have q := call_frame (M := M) [] (gLaw12RoomTogether.can x0 r hr) (by simp) rfl (by intro k i hk; simp at hk)
    exact callOk_conv q trivial (by simp) (by simp [frameOut, gLaw12RoomTogether.out]) (by simp [frameOut, gLaw12RoomTogether.out])
  · cases h
end Go.Proofs

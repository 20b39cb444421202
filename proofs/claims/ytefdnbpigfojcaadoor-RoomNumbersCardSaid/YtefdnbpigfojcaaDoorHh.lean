/- That these functions compute what their plain functions do. No condition. -/
import Derived.Test.YtefdnbpigfojcaaDoorM10
import Derived.Test.YtefdnbpigfojcaaDoorTy
import Derived.Test.YtefdnbpigfojcaaDoorLl
import Derived.Test.YtefdnbpigfojcaaDoorHa
import Derived.Test.YtefdnbpigfojcaaDoorHb
import Derived.Test.YtefdnbpigfojcaaDoorM07
namespace Go.Proofs
open Go.Ab
@[simp] def gLaw12RoomNumbers.out (_x0 : Int) (_x1 : List Int) (r : Bool) : Out := { av := .lit (.bool r), M := none }
def gLaw12RoomNumbers.fin (x0 : Int) (x1 : List Int) (r : Bool) (σ : St) : Prop := finK (gLaw12RoomNumbers.out x0 x1 r) [] σ.M (resA Tryd.ty σ.A σ.M Tryd.f6.results.toList)
set_option maxHeartbeats 4000000 in
set_option maxRecDepth 100000 in
theorem gLaw12RoomNumbers.can (x0 : Int) (x1 : List Int) (r : Bool) (hr : gLaw12RoomNumbers x0 x1 = some r) : CallOk Tryd.prog 6 [.lit (.int .i64 x0), .sl (x1.map (eNum .i64)) .no] [] (gLaw12RoomNumbers.out x0 x1 r) := by
  unfold gLaw12RoomNumbers at hr
  have hΓ := (gamL_cons gRoomTableIn.ok (gamL_cons gRoomTableJoin.ok (gamL_cons gRoomTableLeave.ok (gamL_cons gRoomTableLen.ok (gamL_cons gRoomTablePeer.ok (gamL_cons gLaw12Awake.ok (gamL_cons gRoomNew.ok (gamL_nil))))))) : GamOk Tryd.prog _)
  refine call_of_awp Tryd.tyOk Tryd.func6 rfl (by kernel_rfl) rfl rfl (by simp) ?_
  intro _ _ _
  refine AWp.then ⟨[⟨0, none, .lit (.int .i64 x0)⟩, ⟨1, none, .sl (x1.map (eNum .i64)) .no⟩], []⟩ (AWp.reg Tryd.tyOk hΓ (keep := []) (dead := []) (by kernel_rfl) rfl (by simp)) ?_
  refine AWp.seq ?_
  obtain ⟨r1, h21, hr⟩ := bind_some' hr
  refine AWp.then ⟨[⟨13, none, .lit (.bool (notB r1))⟩, ⟨0, none, .lit (.int .i64 x0)⟩, ⟨1, none, .sl (x1.map (eNum .i64)) .no⟩], []⟩ (AWp.reg Tryd.tyOk hΓ (keep := [13]) (dead := []) (by kernel_rfl) rfl (by simp [h21])) ?_
  refine AWp.cond (b := (notB r1)) (by simp) (fun h22 => ?_) (fun h22 => ?_)
  · have hr := cond_t h22 hr
    refine AWp.then ⟨[⟨4, none, .lit (.bool false)⟩], []⟩ (AWp.reg Tryd.tyOk hΓ (keep := [4]) (dead := [13, 0, 1]) (by kernel_rfl) rfl (by simp [h22])) ?_
    refine AWp.ret ?_
    obtain rfl := some_inj hr
    refine fin_ret ?_
    simp
  · have hr := cond_f h22 hr
    refine AWp.skip ?_
    obtain ⟨r2, h23, hr⟩ := bind_some' hr
    refine AWp.then ⟨[⟨5, none, .ptr 1 0⟩, ⟨0, none, .lit (.int .i64 x0)⟩, ⟨1, none, .sl (x1.map (eNum .i64)) .no⟩], [.mapo (encM (kI .i64) (vA Antiphonref12Peer.enc) r2.fPeers), .blk [.mp 0, .lit (.int .i64 r2.fNext)]]⟩ (AWp.reg Tryd.tyOk hΓ (keep := [5]) (dead := [13]) (by kernel_rfl) rfl (by simp [h22, h23])) ?_
    refine AWp.then ⟨[⟨6, none, .lit (.int .i64 (-1))⟩, ⟨5, none, .ptr 1 0⟩, ⟨0, none, .lit (.int .i64 x0)⟩, ⟨1, none, .sl (x1.map (eNum .i64)) .no⟩], [.mapo (encM (kI .i64) (vA Antiphonref12Peer.enc) r2.fPeers), .blk [.mp 0, .lit (.int .i64 r2.fNext)]]⟩ (AWp.reg Tryd.tyOk hΓ (keep := [6]) (dead := []) (by kernel_rfl) rfl (by simp)) ?_
    refine AWp.seq ?_
    refine AWp.then ⟨[⟨17, none, .lit (.int .i64 (minI (maxI x0 0) 60))⟩, ⟨18, none, .lit (.int .i64 0)⟩, ⟨6, none, .lit (.int .i64 (-1))⟩, ⟨5, none, .ptr 1 0⟩, ⟨1, none, .sl (x1.map (eNum .i64)) .no⟩], [.mapo (encM (kI .i64) (vA Antiphonref12Peer.enc) r2.fPeers), .blk [.mp 0, .lit (.int .i64 r2.fNext)]]⟩ (AWp.reg Tryd.tyOk hΓ (keep := [17, 18]) (dead := [0]) (by kernel_rfl) rfl (by simp)) ?_
    refine AWp.loopE (fun (s1 : Int × Int × (List (Int × Antiphonref12Peer)) × Int) (γ1 : Unit) => ⟨[⟨17, none, .lit (.int .i64 (minI (maxI x0 0) 60))⟩, ⟨18, none, .lit (.int .i64 s1.1)⟩, ⟨6, none, .lit (.int .i64 s1.2.1)⟩, ⟨5, none, .ptr 1 0⟩, ⟨1, none, .sl (x1.map (eNum .i64)) .no⟩], [.mapo (encM (kI .i64) (vA Antiphonref12Peer.enc) s1.2.2.1), .blk [.mp 0, .lit (.int .i64 s1.2.2.2)]]⟩) (fun (v1 : (List (Int × Antiphonref12Peer)) × Int) (γ1a : Unit) => ⟨[⟨5, none, .ptr 1 0⟩], [.mapo (encM (kI .i64) (vA Antiphonref12Peer.enc) v1.1), .blk [.mp 0, .lit (.int .i64 v1.2)]]⟩) (gLaw12RoomNumbers.fin x0 x1) hr () 2 (by simp) (fun s1 f γ1 hr => ?_) (fun v1 γ1a σ1 m1 hr hc => ?_) (fun _ h => h)
    · unfold gLaw12RoomNumbers.loop1 at hr
      refine AWp.then ⟨[⟨19, none, .lit (.bool (ltI s1.1 (minI (maxI x0 0) 60)))⟩, ⟨17, none, .lit (.int .i64 (minI (maxI x0 0) 60))⟩, ⟨18, none, .lit (.int .i64 s1.1)⟩, ⟨6, none, .lit (.int .i64 s1.2.1)⟩, ⟨5, none, .ptr 1 0⟩, ⟨1, none, .sl (x1.map (eNum .i64)) .no⟩], [.mapo (encM (kI .i64) (vA Antiphonref12Peer.enc) s1.2.2.1), .blk [.mp 0, .lit (.int .i64 s1.2.2.2)]]⟩ (AWp.reg Tryd.tyOk hΓ (keep := [19]) (dead := []) (by kernel_rfl) rfl (by simp)) ?_
      refine AWp.seq ?_
      refine AWp.cond (b := (ltI s1.1 (minI (maxI x0 0) 60))) (by simp) (fun h24 => ?_) (fun h24 => ?_)
      · have hr := cond_t h24 hr
        refine AWp.skip ?_
        refine AWp.seq ?_
        refine AWp.block ?_
        refine AWp.then ⟨[⟨7, none, .lit (.int .i64 s1.1)⟩, ⟨17, none, .lit (.int .i64 (minI (maxI x0 0) 60))⟩, ⟨18, none, .lit (.int .i64 s1.1)⟩, ⟨6, none, .lit (.int .i64 s1.2.1)⟩, ⟨5, none, .ptr 1 0⟩, ⟨1, none, .sl (x1.map (eNum .i64)) .no⟩], [.mapo (encM (kI .i64) (vA Antiphonref12Peer.enc) s1.2.2.1), .blk [.mp 0, .lit (.int .i64 s1.2.2.2)]]⟩ (AWp.reg Tryd.tyOk hΓ (keep := [7]) (dead := [19]) (by kernel_rfl) rfl (by simp [h24])) ?_
        obtain ⟨h25, hr⟩ := need_some hr
        obtain ⟨h26, hr⟩ := need_some hr
        obtain ⟨h27, hr⟩ := need_some hr
        obtain ⟨h28, hr⟩ := need_some hr
        obtain ⟨r3, h29, hr⟩ := bind_some' hr
        refine AWp.then ⟨[⟨8, none, .lit (.int .i64 r3.1)⟩, ⟨9, none, .lit (.int .i64 r3.2.1)⟩, ⟨7, none, .lit (.int .i64 s1.1)⟩, ⟨17, none, .lit (.int .i64 (minI (maxI x0 0) 60))⟩, ⟨18, none, .lit (.int .i64 s1.1)⟩, ⟨6, none, .lit (.int .i64 s1.2.1)⟩, ⟨5, none, .ptr 1 0⟩, ⟨1, none, .sl (x1.map (eNum .i64)) .no⟩], [.mapo (encM (kI .i64) (vA Antiphonref12Peer.enc) r3.2.2.fPeers), .blk [.mp 0, .lit (.int .i64 r3.2.2.fNext)]]⟩ (AWp.reg Tryd.tyOk hΓ (keep := [8, 9]) (dead := []) (by kernel_rfl) rfl (by simp [h25, h26, h28, h29])) ?_
        refine AWp.meetF (fun (v2 : Int) (γ2 : Unit) => ⟨[⟨7, none, .lit (.int .i64 s1.1)⟩, ⟨17, none, .lit (.int .i64 (minI (maxI x0 0) 60))⟩, ⟨18, none, .lit (.int .i64 s1.1)⟩, ⟨6, none, .lit (.int .i64 v2)⟩, ⟨5, none, .ptr 1 0⟩, ⟨1, none, .sl (x1.map (eNum .i64)) .no⟩], [.mapo (encM (kI .i64) (vA Antiphonref12Peer.enc) r3.2.2.fPeers), .blk [.mp 0, .lit (.int .i64 r3.2.2.fNext)]]⟩) (QRr (gLaw12RoomNumbers.fin x0 x1)) hr (fun f hr => ?_) (fun v2 γ2 hr => ?_) (fun _ h => QRr_ret h)
        · refine AWp.then ⟨[⟨39, none, .lit (.bool (eqI r3.2.1 0))⟩, ⟨8, none, .lit (.int .i64 r3.1)⟩, ⟨9, none, .lit (.int .i64 r3.2.1)⟩, ⟨7, none, .lit (.int .i64 s1.1)⟩, ⟨17, none, .lit (.int .i64 (minI (maxI x0 0) 60))⟩, ⟨18, none, .lit (.int .i64 s1.1)⟩, ⟨6, none, .lit (.int .i64 s1.2.1)⟩, ⟨5, none, .ptr 1 0⟩, ⟨1, none, .sl (x1.map (eNum .i64)) .no⟩], [.mapo (encM (kI .i64) (vA Antiphonref12Peer.enc) r3.2.2.fPeers), .blk [.mp 0, .lit (.int .i64 r3.2.2.fNext)]]⟩ (AWp.reg Tryd.tyOk hΓ (keep := [39]) (dead := []) (by kernel_rfl) rfl (by simp)) ?_
          refine AWp.cond (b := (eqI r3.2.1 0)) (by simp) (fun h30 => ?_) (fun h30 => ?_)
          · have hr := cond_t h30 hr
            refine AWp.seq ?_
            refine AWp.then ⟨[⟨43, none, .lit (.bool (neI r3.1 (addI .i64 s1.2.1 1)))⟩, ⟨8, none, .lit (.int .i64 r3.1)⟩, ⟨7, none, .lit (.int .i64 s1.1)⟩, ⟨17, none, .lit (.int .i64 (minI (maxI x0 0) 60))⟩, ⟨18, none, .lit (.int .i64 s1.1)⟩, ⟨5, none, .ptr 1 0⟩, ⟨1, none, .sl (x1.map (eNum .i64)) .no⟩], [.mapo (encM (kI .i64) (vA Antiphonref12Peer.enc) r3.2.2.fPeers), .blk [.mp 0, .lit (.int .i64 r3.2.2.fNext)]]⟩ (AWp.reg Tryd.tyOk hΓ (keep := [43]) (dead := [39, 9, 6]) (by kernel_rfl) rfl (by simp [h30])) ?_
            refine AWp.cond (b := (neI r3.1 (addI .i64 s1.2.1 1))) (by simp) (fun h31 => ?_) (fun h31 => ?_)
            · have hr := cond_t h31 hr
              refine AWp.then ⟨[⟨4, none, .lit (.bool false)⟩], [.mapo (encM (kI .i64) (vA Antiphonref12Peer.enc) r3.2.2.fPeers), .blk [.mp 0, .lit (.int .i64 r3.2.2.fNext)]]⟩ (AWp.reg Tryd.tyOk hΓ (keep := [4]) (dead := [43, 8, 7, 17, 18, 5, 1]) (by kernel_rfl) rfl (by simp [h31])) ?_
              refine AWp.ret ?_
              obtain rfl := some_inj hr
              refine meet_ret ?_
              refine ⟨_, rfl, ?_⟩
              refine fin_ret ?_
              simp
            · have hr := cond_f h31 hr
              refine AWp.skip ?_
              refine AWp.last ⟨[⟨6, none, .lit (.int .i64 r3.1)⟩, ⟨7, none, .lit (.int .i64 s1.1)⟩, ⟨17, none, .lit (.int .i64 (minI (maxI x0 0) 60))⟩, ⟨18, none, .lit (.int .i64 s1.1)⟩, ⟨5, none, .ptr 1 0⟩, ⟨1, none, .sl (x1.map (eNum .i64)) .no⟩], [.mapo (encM (kI .i64) (vA Antiphonref12Peer.enc) r3.2.2.fPeers), .blk [.mp 0, .lit (.int .i64 r3.2.2.fNext)]]⟩ (AWp.reg Tryd.tyOk hΓ (keep := [6]) (dead := [43, 8]) (by kernel_rfl) rfl (by simp [h31])) ?_
              obtain rfl := some_inj hr
              exact meet_go () 2 (by first | (simp; done) | simp [h21, h22, h23, h24, h25, h26, h27, h28, h29, h30, h31])
          · have hr := cond_f h30 hr
            refine AWp.then ⟨[⟨46, none, .lit (.bool (neI r3.2.1 11))⟩, ⟨7, none, .lit (.int .i64 s1.1)⟩, ⟨17, none, .lit (.int .i64 (minI (maxI x0 0) 60))⟩, ⟨18, none, .lit (.int .i64 s1.1)⟩, ⟨6, none, .lit (.int .i64 s1.2.1)⟩, ⟨5, none, .ptr 1 0⟩, ⟨1, none, .sl (x1.map (eNum .i64)) .no⟩], [.mapo (encM (kI .i64) (vA Antiphonref12Peer.enc) r3.2.2.fPeers), .blk [.mp 0, .lit (.int .i64 r3.2.2.fNext)]]⟩ (AWp.reg Tryd.tyOk hΓ (keep := [46]) (dead := [39, 8, 9]) (by kernel_rfl) rfl (by simp [h30])) ?_
            refine AWp.cond (b := (neI r3.2.1 11)) (by simp) (fun h32 => ?_) (fun h32 => ?_)
            · have hr := cond_t h32 hr
              refine AWp.then ⟨[⟨4, none, .lit (.bool false)⟩], [.mapo (encM (kI .i64) (vA Antiphonref12Peer.enc) r3.2.2.fPeers), .blk [.mp 0, .lit (.int .i64 r3.2.2.fNext)]]⟩ (AWp.reg Tryd.tyOk hΓ (keep := [4]) (dead := [46, 7, 17, 18, 6, 5, 1]) (by kernel_rfl) rfl (by simp [h32])) ?_
              refine AWp.ret ?_
              obtain rfl := some_inj hr
              refine meet_ret ?_
              refine ⟨_, rfl, ?_⟩
              refine fin_ret ?_
              simp
            · have hr := cond_f h32 hr
              refine AWp.skip ?_
              obtain rfl := some_inj hr
              exact meet_go () 2 (by first | (simp; done) | simp [h21, h22, h23, h24, h25, h26, h27, h28, h29, h30, h32])
        · refine AWp.then ⟨[⟨50, none, .lit (.bool (ltI s1.1 (lenL x1)))⟩, ⟨7, none, .lit (.int .i64 s1.1)⟩, ⟨17, none, .lit (.int .i64 (minI (maxI x0 0) 60))⟩, ⟨18, none, .lit (.int .i64 s1.1)⟩, ⟨6, none, .lit (.int .i64 v2)⟩, ⟨5, none, .ptr 1 0⟩, ⟨1, none, .sl (x1.map (eNum .i64)) .no⟩], [.mapo (encM (kI .i64) (vA Antiphonref12Peer.enc) r3.2.2.fPeers), .blk [.mp 0, .lit (.int .i64 r3.2.2.fNext)]]⟩ (AWp.reg Tryd.tyOk hΓ (keep := [50]) (dead := []) (by kernel_rfl) rfl (by simp)) ?_
          refine AWp.cond (b := (ltI s1.1 (lenL x1))) (by simp) (fun h33 => ?_) (fun h33 => ?_)
          · have hr := cond_t h33 hr
            obtain ⟨h34, hr⟩ := need_some hr
            obtain ⟨r4, h35, hr⟩ := bind_some' hr
            refine AWp.then ⟨[⟨11, none, .lit (.bool r4.2)⟩, ⟨7, none, .lit (.int .i64 s1.1)⟩, ⟨17, none, .lit (.int .i64 (minI (maxI x0 0) 60))⟩, ⟨18, none, .lit (.int .i64 s1.1)⟩, ⟨6, none, .lit (.int .i64 v2)⟩, ⟨5, none, .ptr 1 0⟩, ⟨1, none, .sl (x1.map (eNum .i64)) .no⟩], [.mapo (encM (kI .i64) (vA Antiphonref12Peer.enc) r3.2.2.fPeers), .blk [.mp 0, .lit (.int .i64 r3.2.2.fNext)], .blk r4.1.enc]⟩ (AWp.reg Tryd.tyOk hΓ (keep := [11]) (dead := [50]) (by kernel_rfl) rfl (by simp [h33, h34, h35])) ?_
            obtain ⟨h36, hr⟩ := need_some hr
            obtain ⟨r5, h37, hr⟩ := bind_some' hr
            refine AWp.then ⟨[⟨70, none, .lit (.bool (neB (eqI r5.1 0) r4.2))⟩, ⟨17, none, .lit (.int .i64 (minI (maxI x0 0) 60))⟩, ⟨18, none, .lit (.int .i64 s1.1)⟩, ⟨6, none, .lit (.int .i64 v2)⟩, ⟨5, none, .ptr 1 0⟩, ⟨1, none, .sl (x1.map (eNum .i64)) .no⟩], [.mapo (encM (kI .i64) (vA Antiphonref12Peer.enc) r5.2.fPeers), .blk [.mp 0, .lit (.int .i64 r5.2.fNext)], .blk r4.1.enc]⟩ (AWp.reg Tryd.tyOk hΓ (keep := [70]) (dead := [11, 7]) (by kernel_rfl) rfl (by simp [h34, h37])) ?_
            refine AWp.cond (b := (neB (eqI r5.1 0) r4.2)) (by simp) (fun h38 => ?_) (fun h38 => ?_)
            · have hr := cond_t h38 hr
              refine AWp.then ⟨[⟨4, none, .lit (.bool false)⟩], [.mapo (encM (kI .i64) (vA Antiphonref12Peer.enc) r5.2.fPeers), .blk [.mp 0, .lit (.int .i64 r5.2.fNext)], .blk r4.1.enc]⟩ (AWp.reg Tryd.tyOk hΓ (keep := [4]) (dead := [70, 17, 18, 6, 5, 1]) (by kernel_rfl) rfl (by simp [h38])) ?_
              refine AWp.ret ?_
              obtain rfl := some_inj hr
              refine round_ret ?_
              refine fin_ret ?_
              simp
            · have hr := cond_f h38 hr
              refine AWp.skip ?_
              refine AWp.last ⟨[⟨18, none, .lit (.int .i64 (addI .i64 s1.1 1))⟩, ⟨17, none, .lit (.int .i64 (minI (maxI x0 0) 60))⟩, ⟨6, none, .lit (.int .i64 v2)⟩, ⟨5, none, .ptr 1 0⟩, ⟨1, none, .sl (x1.map (eNum .i64)) .no⟩], [.mapo (encM (kI .i64) (vA Antiphonref12Peer.enc) r5.2.fPeers), .blk [.mp 0, .lit (.int .i64 r5.2.fNext)], .blk r4.1.enc]⟩ (AWp.reg Tryd.tyOk hΓ (keep := [18]) (dead := [70]) (by kernel_rfl) rfl (by simp [h38])) ?_
              obtain rfl := some_inj hr
              exact round_go () 2 (by first | (simp; done) | simp [h21, h22, h23, h24, h25, h26, h27, h28, h29, h33, h34, h35, h36, h37, h38])
          · have hr := cond_f h33 hr
            refine AWp.skip ?_
            refine AWp.last ⟨[⟨18, none, .lit (.int .i64 (addI .i64 s1.1 1))⟩, ⟨17, none, .lit (.int .i64 (minI (maxI x0 0) 60))⟩, ⟨6, none, .lit (.int .i64 v2)⟩, ⟨5, none, .ptr 1 0⟩, ⟨1, none, .sl (x1.map (eNum .i64)) .no⟩], [.mapo (encM (kI .i64) (vA Antiphonref12Peer.enc) r3.2.2.fPeers), .blk [.mp 0, .lit (.int .i64 r3.2.2.fNext)]]⟩ (AWp.reg Tryd.tyOk hΓ (keep := [18]) (dead := [50, 7]) (by kernel_rfl) rfl (by simp [h33])) ?_
            obtain rfl := some_inj hr
            exact round_go () 2 (by first | (simp; done) | simp [h21, h22, h23, h24, h25, h26, h27, h28, h29, h33])
      · have hr := cond_f h24 hr
        refine AWp.exit ?_
        obtain rfl := some_inj hr
        exact round_out () 2 (by first | (simp; done) | simp [h21, h22, h23, h24])
    · refine AWp.conv hc ?_
      obtain ⟨r6, h39, hr⟩ := bind_some' hr
      obtain ⟨h40, hr⟩ := need_some hr
      refine AWp.then ⟨[⟨4, none, .lit (.bool (pickB (leqI r6 16) (eqI r6 (lenL ((gRoomTableIn (RoomTable.mk v1.1 v1.2) ⟨#[82]⟩).getD dflt))) false))⟩], [.mapo (encM (kI .i64) (vA Antiphonref12Peer.enc) v1.1), .blk [.mp 0, .lit (.int .i64 v1.2)]]⟩ (AWp.reg Tryd.tyOk hΓ (keep := [4]) (dead := [5]) (by kernel_rfl) rfl (by simp [h39, h40])) ?_
      refine AWp.ret ?_
      obtain rfl := some_inj hr
      refine fin_ret ?_
      simp

@[simp] noncomputable def gLaw12RoomNumbers.S : Sp
  | [.lit (.int .i64 x0), .sl e1 _], _ => some { av := .lit (.bool ((gLaw12RoomNumbers x0 (e1.map decI)).getD dflt)), M := none, obl := e1 = (e1.map decI).map (eNum .i64) ∧ (gLaw12RoomNumbers x0 (e1.map decI)).isSome = true }
  | _, _ => none

set_option maxHeartbeats 1000000 in
theorem gLaw12RoomNumbers.ok : SpecOk Tryd.prog 6 gLaw12RoomNumbers.S := by
  intro l M out h
  unfold gLaw12RoomNumbers.S at h
  split at h
  · rename_i x0 e1 k1
    cases h
    refine callOk_of fun ho => ?_
    obtain ⟨ox1, hs⟩ := ho
    generalize (e1.map decI) = x1 at *
    subst ox1
    obtain ⟨r, hr⟩ := Option.isSome_iff_exists.1 hs
    simp only [hr, Option.getD_some]
    have q := call_frame (M := M) [] (gLaw12RoomNumbers.can x0 x1 r hr) (by simp) rfl (by intro k i hk; simp at hk)
    exact callOk_conv q trivial (by simp) (by simp [frameOut, gLaw12RoomNumbers.out]) (by simp [frameOut, gLaw12RoomNumbers.out])
  · cases h
end Go.Proofs

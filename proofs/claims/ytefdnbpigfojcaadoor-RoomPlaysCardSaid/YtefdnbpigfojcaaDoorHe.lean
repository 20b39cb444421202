/- That these functions compute what their plain functions do. No condition. -/
import Derived.Test.YtefdnbpigfojcaaDoorHeD
import Derived.Test.YtefdnbpigfojcaaDoorTy
import Derived.Test.YtefdnbpigfojcaaDoorLl
import Derived.Test.YtefdnbpigfojcaaDoorHa
import Derived.Test.YtefdnbpigfojcaaDoorM04
import Derived.Test.YtefdnbpigfojcaaDoorHc
import Derived.Test.YtefdnbpigfojcaaDoorHb
import Derived.Test.YtefdnbpigfojcaaDoorM10
import Derived.Test.YtefdnbpigfojcaaDoorM07
namespace Go.Proofs
open Go.Ab
@[simp] def gLaw12Is.out (_x0 : RoomTable) (_x1 : Antiphonref12Table) (_x2 : Int) (r : Int) : Out := { av := .lit (.int .i64 r), M := none }
def gLaw12Is.fin (x0 : RoomTable) (x1 : Antiphonref12Table) (x2 : Int) (r : Int) (σ : St) : Prop := finK (gLaw12Is.out x0 x1 x2 r) [.blk [.mp 1, .lit (.int .i64 x0.fNext)], .mapo (encM (kI .i64) (vA Antiphonref12Peer.enc) x0.fPeers)] σ.M (resA Tryd.ty σ.A σ.M Tryd.f18.results.toList)
set_option maxHeartbeats 4000000 in
set_option maxRecDepth 100000 in
theorem gLaw12Is.can (x0 : RoomTable) (x1 : Antiphonref12Table) (x2 : Int) (r : Int) (hr : gLaw12Is x0 x1 x2 = some r) : CallOk Tryd.prog 18 [.ptr 0 0, .agg [.sl (x1.fL.map Antiphonref12Peer.enc) .no, .lit (.int .i64 x1.fNext)], .lit (.int .i64 x2)] [.blk [.mp 1, .lit (.int .i64 x0.fNext)], .mapo (encM (kI .i64) (vA Antiphonref12Peer.enc) x0.fPeers)] (gLaw12Is.out x0 x1 x2 r) := by
  unfold gLaw12Is at hr
  have hΓ := (gamL_cons gRoomTableIn.ok (gamL_cons gRoomTableLen.ok (gamL_cons gRoomTablePeer.ok (gamL_cons gRoomTableRooms.ok (gamL_cons gRef12Find.ok (gamL_cons gRef12In.ok (gamL_cons gRef12Rooms.ok (gamL_nil))))))) : GamOk Tryd.prog _)
  refine call_of_awp Tryd.tyOk Tryd.func18 rfl (by kernel_rfl) rfl rfl (by simp) ?_
  intro _ _ _
  refine AWp.then ⟨[⟨4, none, .ptr 2 0⟩, ⟨0, none, .ptr 0 0⟩, ⟨2, none, .lit (.int .i64 x2)⟩], [.blk [.mp 1, .lit (.int .i64 x0.fNext)], .mapo (encM (kI .i64) (vA Antiphonref12Peer.enc) x0.fPeers), .blk x1.enc]⟩ (AWp.reg Tryd.tyOk hΓ (keep := [4]) (dead := [1]) (by kernel_rfl) rfl (by simp)) ?_
  obtain ⟨r1, h17, hr⟩ := bind_some' hr
  refine AWp.then ⟨[⟨7, none, .ptr 3 0⟩, ⟨8, none, .lit (.bool r1.2)⟩, ⟨4, none, .ptr 2 0⟩, ⟨0, none, .ptr 0 0⟩, ⟨2, none, .lit (.int .i64 x2)⟩], [.blk [.mp 1, .lit (.int .i64 x0.fNext)], .mapo (encM (kI .i64) (vA Antiphonref12Peer.enc) x0.fPeers), .blk x1.enc, .blk r1.1.enc]⟩ (AWp.reg Tryd.tyOk hΓ (keep := [7, 8]) (dead := []) (by kernel_rfl) rfl (by simp [h17])) ?_
  obtain ⟨r2, h18, hr⟩ := bind_some' hr
  refine AWp.then ⟨[⟨9, none, .ptr 4 0⟩, ⟨10, none, .lit (.bool r2.2)⟩, ⟨7, none, .ptr 3 0⟩, ⟨8, none, .lit (.bool r1.2)⟩, ⟨4, none, .ptr 2 0⟩, ⟨0, none, .ptr 0 0⟩], [.blk [.mp 1, .lit (.int .i64 x0.fNext)], .mapo (encM (kI .i64) (vA Antiphonref12Peer.enc) x0.fPeers), .blk x1.enc, .blk r1.1.enc, .blk r2.1.enc]⟩ (AWp.reg Tryd.tyOk hΓ (keep := [9, 10]) (dead := [2]) (by kernel_rfl) rfl (by simp [h18])) ?_
  obtain ⟨r3, h19, hr⟩ := bind_some' hr
  obtain ⟨r4, h20, hr⟩ := bind_some' hr
  refine AWp.then ⟨[⟨11, none, .sl (r3.map eTxt) .no⟩, ⟨12, none, .sl (r4.map eTxt) .no⟩, ⟨9, none, .ptr 4 0⟩, ⟨10, none, .lit (.bool r2.2)⟩, ⟨7, none, .ptr 3 0⟩, ⟨8, none, .lit (.bool r1.2)⟩, ⟨4, none, .ptr 2 0⟩, ⟨0, none, .ptr 0 0⟩], [.blk [.mp 1, .lit (.int .i64 x0.fNext)], .mapo (encM (kI .i64) (vA Antiphonref12Peer.enc) x0.fPeers), .blk x1.enc, .blk r1.1.enc, .blk r2.1.enc]⟩ (AWp.regD Tryd.mixed Tryd.tyOk hΓ (keep := [11, 12]) (dead := []) [] [(false, []), (false, []), (false, []), (false, []), (false, []), (false, [])] (by kernel_rfl) rfl (by simp [h19, h20])) ?_
  refine AWp.seq ?_
  obtain ⟨r5, h21, hr⟩ := bind_some' hr
  refine AWp.then ⟨[⟨61, none, .lit (.bool (pickB (pickB (pickB (pickB (neI r5 (lenL x1.fL)) true (notB (pickB (eqI r1.1.fN r2.1.fN) (pickB (eqS r1.1.fName r2.1.fName) (eqS r1.1.fRoom r2.1.fRoom) false) false))) true (neB r1.2 r2.2)) true (neI (lenL r3) (lenL r4))) true (ltI 8 (lenL r3))))⟩, ⟨11, none, .sl (r3.map eTxt) .no⟩, ⟨4, none, .ptr 2 0⟩, ⟨0, none, .ptr 0 0⟩], [.blk [.mp 1, .lit (.int .i64 x0.fNext)], .mapo (encM (kI .i64) (vA Antiphonref12Peer.enc) x0.fPeers), .blk x1.enc, .blk r1.1.enc, .blk r2.1.enc]⟩ (AWp.regD Tryd.mixed Tryd.tyOk hΓ (keep := [61]) (dead := [12, 9, 10, 7, 8]) [] [(false, []), (false, []), (false, []), (false, []), (false, []), (false, []), (false, []), (false, [40]), (false, [40]), (false, [40]), (false, []), (false, []), (false, [45]), (false, [45]), (false, [45]), (false, []), (false, []), (false, [50]), (false, [50]), (false, [50]), (false, [50]), (false, [50]), (false, []), (false, []), (false, [57]), (false, [57]), (false, [57]), (false, [])] (by kernel_rfl) rfl (by simp [h21])) ?_
  refine AWp.cond (b := (pickB (pickB (pickB (pickB (neI r5 (lenL x1.fL)) true (notB (pickB (eqI r1.1.fN r2.1.fN) (pickB (eqS r1.1.fName r2.1.fName) (eqS r1.1.fRoom r2.1.fRoom) false) false))) true (neB r1.2 r2.2)) true (neI (lenL r3) (lenL r4))) true (ltI 8 (lenL r3)))) (by simp) (fun h22 => ?_) (fun h22 => ?_)
  · have hr := cond_t h22 hr
    refine AWp.then ⟨[⟨6, none, .lit (.int .i64 (-1))⟩], [.blk [.mp 1, .lit (.int .i64 x0.fNext)], .mapo (encM (kI .i64) (vA Antiphonref12Peer.enc) x0.fPeers), .blk x1.enc, .blk r1.1.enc, .blk r2.1.enc]⟩ (AWp.reg Tryd.tyOk hΓ (keep := [6]) (dead := [61, 11, 4, 0]) (by kernel_rfl) rfl (by simp [h22])) ?_
    refine AWp.ret ?_
    obtain rfl := some_inj hr
    refine fin_ret ?_
    simp
  · have hr := cond_f h22 hr
    refine AWp.skip ?_
    refine AWp.seq ?_
    refine AWp.then ⟨[⟨62, none, .sl (r3.map eTxt) .no⟩, ⟨63, none, .lit (.int .i64 (lenL r3))⟩, ⟨64, none, .lit (.int .i64 0)⟩, ⟨11, none, .sl (r3.map eTxt) .no⟩, ⟨4, none, .ptr 2 0⟩, ⟨0, none, .ptr 0 0⟩], [.blk [.mp 1, .lit (.int .i64 x0.fNext)], .mapo (encM (kI .i64) (vA Antiphonref12Peer.enc) x0.fPeers), .blk x1.enc, .blk r1.1.enc, .blk r2.1.enc]⟩ (AWp.reg Tryd.tyOk hΓ (keep := [62, 63, 64]) (dead := [61]) (by kernel_rfl) rfl (by simp [h22])) ?_
    refine AWp.loopE (fun (s1 : Int) (γ1 : Unit) => ⟨[⟨62, none, .sl (r3.map eTxt) .no⟩, ⟨63, none, .lit (.int .i64 (lenL r3))⟩, ⟨64, none, .lit (.int .i64 s1)⟩, ⟨11, none, .sl (r3.map eTxt) .no⟩, ⟨4, none, .ptr 2 0⟩, ⟨0, none, .ptr 0 0⟩], [.blk [.mp 1, .lit (.int .i64 x0.fNext)], .mapo (encM (kI .i64) (vA Antiphonref12Peer.enc) x0.fPeers), .blk x1.enc, .blk r1.1.enc, .blk r2.1.enc]⟩) (fun (v1 : Unit) (γ1a : Unit) => ⟨[], [.blk [.mp 1, .lit (.int .i64 x0.fNext)], .mapo (encM (kI .i64) (vA Antiphonref12Peer.enc) x0.fPeers), .blk x1.enc, .blk r1.1.enc, .blk r2.1.enc]⟩) (gLaw12Is.fin x0 x1 x2) hr () 5 (by simp) (fun s1 f γ1 hr => ?_) (fun v1 γ1a σ1 m1 hr hc => ?_) (fun _ h => h)
    · unfold gLaw12Is.loop1 at hr
      refine AWp.then ⟨[⟨65, none, .lit (.bool (ltI s1 (lenL r3)))⟩, ⟨62, none, .sl (r3.map eTxt) .no⟩, ⟨63, none, .lit (.int .i64 (lenL r3))⟩, ⟨64, none, .lit (.int .i64 s1)⟩, ⟨11, none, .sl (r3.map eTxt) .no⟩, ⟨4, none, .ptr 2 0⟩, ⟨0, none, .ptr 0 0⟩], [.blk [.mp 1, .lit (.int .i64 x0.fNext)], .mapo (encM (kI .i64) (vA Antiphonref12Peer.enc) x0.fPeers), .blk x1.enc, .blk r1.1.enc, .blk r2.1.enc]⟩ (AWp.reg Tryd.tyOk hΓ (keep := [65]) (dead := []) (by kernel_rfl) rfl (by simp)) ?_
      refine AWp.seq ?_
      refine AWp.cond (b := (ltI s1 (lenL r3))) (by simp) (fun h23 => ?_) (fun h23 => ?_)
      · have hr := cond_t h23 hr
        refine AWp.skip ?_
        refine AWp.seq ?_
        refine AWp.block ?_
        obtain ⟨h24, hr⟩ := need_some hr
        refine AWp.then ⟨[⟨13, none, .lit (.int .i64 s1)⟩, ⟨14, none, .lit (.string (nthI r3 s1))⟩, ⟨62, none, .sl (r3.map eTxt) .no⟩, ⟨63, none, .lit (.int .i64 (lenL r3))⟩, ⟨64, none, .lit (.int .i64 s1)⟩, ⟨11, none, .sl (r3.map eTxt) .no⟩, ⟨4, none, .ptr 2 0⟩, ⟨0, none, .ptr 0 0⟩], [.blk [.mp 1, .lit (.int .i64 x0.fNext)], .mapo (encM (kI .i64) (vA Antiphonref12Peer.enc) x0.fPeers), .blk x1.enc, .blk r1.1.enc, .blk r2.1.enc]⟩ (AWp.reg Tryd.tyOk hΓ (keep := [13, 14]) (dead := [65]) (by kernel_rfl) rfl (by simp [h23, h24])) ?_
        obtain ⟨r6, h25, hr⟩ := bind_some' hr
        obtain ⟨r7, h26, hr⟩ := bind_some' hr
        refine AWp.then ⟨[⟨15, none, .sl (r6.map Antiphonref12Peer.enc) .no⟩, ⟨16, none, .sl (r7.map Antiphonref12Peer.enc) .no⟩, ⟨13, none, .lit (.int .i64 s1)⟩, ⟨14, none, .lit (.string (nthI r3 s1))⟩, ⟨62, none, .sl (r3.map eTxt) .no⟩, ⟨63, none, .lit (.int .i64 (lenL r3))⟩, ⟨64, none, .lit (.int .i64 s1)⟩, ⟨11, none, .sl (r3.map eTxt) .no⟩, ⟨4, none, .ptr 2 0⟩, ⟨0, none, .ptr 0 0⟩], [.blk [.mp 1, .lit (.int .i64 x0.fNext)], .mapo (encM (kI .i64) (vA Antiphonref12Peer.enc) x0.fPeers), .blk x1.enc, .blk r1.1.enc, .blk r2.1.enc]⟩ (AWp.regD Tryd.mixed Tryd.tyOk hΓ (keep := [15, 16]) (dead := []) [] [(false, []), (false, []), (false, []), (false, []), (false, []), (false, []), (false, []), (false, [])] (by kernel_rfl) rfl (by simp [h25, h26])) ?_
        refine AWp.seq ?_
        obtain ⟨h27, hr⟩ := need_some hr
        refine AWp.then ⟨[⟨102, none, .lit (.bool (pickB (pickB (pickB (pickB (ltI 0 s1) (notB (ltS (nthI r3 (subI .i64 s1 1)) (nthI r3 s1))) false) true (neI (lenL r6) (lenL r7))) true (eqI (lenL r6) 0)) true (ltI 16 (lenL r6))))⟩, ⟨15, none, .sl (r6.map Antiphonref12Peer.enc) .no⟩, ⟨16, none, .sl (r7.map Antiphonref12Peer.enc) .no⟩, ⟨62, none, .sl (r3.map eTxt) .no⟩, ⟨63, none, .lit (.int .i64 (lenL r3))⟩, ⟨64, none, .lit (.int .i64 s1)⟩, ⟨11, none, .sl (r3.map eTxt) .no⟩, ⟨4, none, .ptr 2 0⟩, ⟨0, none, .ptr 0 0⟩], [.blk [.mp 1, .lit (.int .i64 x0.fNext)], .mapo (encM (kI .i64) (vA Antiphonref12Peer.enc) x0.fPeers), .blk x1.enc, .blk r1.1.enc, .blk r2.1.enc]⟩ (AWp.reg Tryd.tyOk hΓ (keep := [102]) (dead := [13, 14]) (by kernel_rfl) rfl (by simp [h27])) ?_
        refine AWp.cond (b := (pickB (pickB (pickB (pickB (ltI 0 s1) (notB (ltS (nthI r3 (subI .i64 s1 1)) (nthI r3 s1))) false) true (neI (lenL r6) (lenL r7))) true (eqI (lenL r6) 0)) true (ltI 16 (lenL r6)))) (by simp) (fun h28 => ?_) (fun h28 => ?_)
        · have hr := cond_t h28 hr
          refine AWp.then ⟨[⟨6, none, .lit (.int .i64 (-1))⟩], [.blk [.mp 1, .lit (.int .i64 x0.fNext)], .mapo (encM (kI .i64) (vA Antiphonref12Peer.enc) x0.fPeers), .blk x1.enc, .blk r1.1.enc, .blk r2.1.enc]⟩ (AWp.reg Tryd.tyOk hΓ (keep := [6]) (dead := [102, 15, 16, 62, 63, 64, 11, 4, 0]) (by kernel_rfl) rfl (by simp [h28])) ?_
          refine AWp.ret ?_
          obtain rfl := some_inj hr
          refine round_ret ?_
          refine fin_ret ?_
          simp
        · have hr := cond_f h28 hr
          refine AWp.skip ?_
          refine AWp.then ⟨[⟨104, none, .lit (.int .i64 (lenL r7))⟩, ⟨105, none, .lit (.int .i64 0)⟩, ⟨15, none, .sl (r6.map Antiphonref12Peer.enc) .no⟩, ⟨16, none, .sl (r7.map Antiphonref12Peer.enc) .no⟩, ⟨62, none, .sl (r3.map eTxt) .no⟩, ⟨63, none, .lit (.int .i64 (lenL r3))⟩, ⟨64, none, .lit (.int .i64 s1)⟩, ⟨11, none, .sl (r3.map eTxt) .no⟩, ⟨4, none, .ptr 2 0⟩, ⟨0, none, .ptr 0 0⟩], [.blk [.mp 1, .lit (.int .i64 x0.fNext)], .mapo (encM (kI .i64) (vA Antiphonref12Peer.enc) x0.fPeers), .blk x1.enc, .blk r1.1.enc, .blk r2.1.enc]⟩ (AWp.reg Tryd.tyOk hΓ (keep := [104, 105]) (dead := [102]) (by kernel_rfl) rfl (by simp [h28])) ?_
          refine AWp.loopE (fun (s2 : Int) (γ2 : Unit) => ⟨[⟨104, none, .lit (.int .i64 (lenL r7))⟩, ⟨105, none, .lit (.int .i64 s2)⟩, ⟨15, none, .sl (r6.map Antiphonref12Peer.enc) .no⟩, ⟨16, none, .sl (r7.map Antiphonref12Peer.enc) .no⟩, ⟨62, none, .sl (r3.map eTxt) .no⟩, ⟨63, none, .lit (.int .i64 (lenL r3))⟩, ⟨64, none, .lit (.int .i64 s1)⟩, ⟨11, none, .sl (r3.map eTxt) .no⟩, ⟨4, none, .ptr 2 0⟩, ⟨0, none, .ptr 0 0⟩], [.blk [.mp 1, .lit (.int .i64 x0.fNext)], .mapo (encM (kI .i64) (vA Antiphonref12Peer.enc) x0.fPeers), .blk x1.enc, .blk r1.1.enc, .blk r2.1.enc]⟩) (fun (v2 : Unit) (γ2a : Unit) => ⟨[⟨62, none, .sl (r3.map eTxt) .no⟩, ⟨63, none, .lit (.int .i64 (lenL r3))⟩, ⟨64, none, .lit (.int .i64 s1)⟩, ⟨11, none, .sl (r3.map eTxt) .no⟩, ⟨4, none, .ptr 2 0⟩, ⟨0, none, .ptr 0 0⟩], [.blk [.mp 1, .lit (.int .i64 x0.fNext)], .mapo (encM (kI .i64) (vA Antiphonref12Peer.enc) x0.fPeers), .blk x1.enc, .blk r1.1.enc, .blk r2.1.enc]⟩) (QRr (gLaw12Is.fin x0 x1 x2)) hr () 5 (by simp) (fun s2 f γ2 hr => ?_) (fun v2 γ2a σ1 m1 hr hc => ?_) (fun _ h => QRr_ret h)
          · unfold gLaw12Is.loop2 at hr
            refine AWp.then ⟨[⟨106, none, .lit (.bool (ltI s2 (lenL r7)))⟩, ⟨104, none, .lit (.int .i64 (lenL r7))⟩, ⟨105, none, .lit (.int .i64 s2)⟩, ⟨15, none, .sl (r6.map Antiphonref12Peer.enc) .no⟩, ⟨16, none, .sl (r7.map Antiphonref12Peer.enc) .no⟩, ⟨62, none, .sl (r3.map eTxt) .no⟩, ⟨63, none, .lit (.int .i64 (lenL r3))⟩, ⟨64, none, .lit (.int .i64 s1)⟩, ⟨11, none, .sl (r3.map eTxt) .no⟩, ⟨4, none, .ptr 2 0⟩, ⟨0, none, .ptr 0 0⟩], [.blk [.mp 1, .lit (.int .i64 x0.fNext)], .mapo (encM (kI .i64) (vA Antiphonref12Peer.enc) x0.fPeers), .blk x1.enc, .blk r1.1.enc, .blk r2.1.enc]⟩ (AWp.reg Tryd.tyOk hΓ (keep := [106]) (dead := []) (by kernel_rfl) rfl (by simp)) ?_
            refine AWp.seq ?_
            refine AWp.cond (b := (ltI s2 (lenL r7))) (by simp) (fun h29 => ?_) (fun h29 => ?_)
            · have hr := cond_t h29 hr
              refine AWp.skip ?_
              refine AWp.seq ?_
              refine AWp.block ?_
              refine AWp.then ⟨[⟨17, none, .lit (.int .i64 s2)⟩, ⟨104, none, .lit (.int .i64 (lenL r7))⟩, ⟨105, none, .lit (.int .i64 s2)⟩, ⟨15, none, .sl (r6.map Antiphonref12Peer.enc) .no⟩, ⟨16, none, .sl (r7.map Antiphonref12Peer.enc) .no⟩, ⟨62, none, .sl (r3.map eTxt) .no⟩, ⟨63, none, .lit (.int .i64 (lenL r3))⟩, ⟨64, none, .lit (.int .i64 s1)⟩, ⟨11, none, .sl (r3.map eTxt) .no⟩, ⟨4, none, .ptr 2 0⟩, ⟨0, none, .ptr 0 0⟩], [.blk [.mp 1, .lit (.int .i64 x0.fNext)], .mapo (encM (kI .i64) (vA Antiphonref12Peer.enc) x0.fPeers), .blk x1.enc, .blk r1.1.enc, .blk r2.1.enc]⟩ (AWp.reg Tryd.tyOk hΓ (keep := [17]) (dead := [106]) (by kernel_rfl) rfl (by simp [h29])) ?_
              obtain ⟨h30, hr⟩ := need_some hr
              obtain ⟨h31, hr⟩ := need_some hr
              refine AWp.then ⟨[⟨116, none, .lit (.bool (notB (pickB (eqI ((nthI r6 s2).fN) ((nthI r7 s2).fN)) (pickB (eqS ((nthI r6 s2).fName) ((nthI r7 s2).fName)) (eqS ((nthI r6 s2).fRoom) ((nthI r7 s2).fRoom)) false) false)))⟩, ⟨104, none, .lit (.int .i64 (lenL r7))⟩, ⟨105, none, .lit (.int .i64 s2)⟩, ⟨15, none, .sl (r6.map Antiphonref12Peer.enc) .no⟩, ⟨16, none, .sl (r7.map Antiphonref12Peer.enc) .no⟩, ⟨62, none, .sl (r3.map eTxt) .no⟩, ⟨63, none, .lit (.int .i64 (lenL r3))⟩, ⟨64, none, .lit (.int .i64 s1)⟩, ⟨11, none, .sl (r3.map eTxt) .no⟩, ⟨4, none, .ptr 2 0⟩, ⟨0, none, .ptr 0 0⟩], [.blk [.mp 1, .lit (.int .i64 x0.fNext)], .mapo (encM (kI .i64) (vA Antiphonref12Peer.enc) x0.fPeers), .blk x1.enc, .blk r1.1.enc, .blk r2.1.enc]⟩ (AWp.regD Tryd.mixed Tryd.tyOk hΓ (keep := [116]) (dead := [17]) [] [(false, []), (false, []), (false, []), (false, []), (false, []), (false, []), (false, []), (false, []), (false, [])] (by kernel_rfl) rfl (by simp [h30, h31])) ?_
              refine AWp.cond (b := (notB (pickB (eqI ((nthI r6 s2).fN) ((nthI r7 s2).fN)) (pickB (eqS ((nthI r6 s2).fName) ((nthI r7 s2).fName)) (eqS ((nthI r6 s2).fRoom) ((nthI r7 s2).fRoom)) false) false))) (by simp) (fun h32 => ?_) (fun h32 => ?_)
              · have hr := cond_t h32 hr
                refine AWp.then ⟨[⟨6, none, .lit (.int .i64 (-1))⟩], [.blk [.mp 1, .lit (.int .i64 x0.fNext)], .mapo (encM (kI .i64) (vA Antiphonref12Peer.enc) x0.fPeers), .blk x1.enc, .blk r1.1.enc, .blk r2.1.enc]⟩ (AWp.reg Tryd.tyOk hΓ (keep := [6]) (dead := [116, 104, 105, 15, 16, 62, 63, 64, 11, 4, 0]) (by kernel_rfl) rfl (by simp [h32])) ?_
                refine AWp.ret ?_
                obtain rfl := some_inj hr
                refine round_ret ?_
                refine ⟨_, rfl, ?_⟩
                refine fin_ret ?_
                simp
              · have hr := cond_f h32 hr
                refine AWp.skip ?_
                refine AWp.last ⟨[⟨105, none, .lit (.int .i64 (addI .i64 s2 1))⟩, ⟨104, none, .lit (.int .i64 (lenL r7))⟩, ⟨15, none, .sl (r6.map Antiphonref12Peer.enc) .no⟩, ⟨16, none, .sl (r7.map Antiphonref12Peer.enc) .no⟩, ⟨62, none, .sl (r3.map eTxt) .no⟩, ⟨63, none, .lit (.int .i64 (lenL r3))⟩, ⟨64, none, .lit (.int .i64 s1)⟩, ⟨11, none, .sl (r3.map eTxt) .no⟩, ⟨4, none, .ptr 2 0⟩, ⟨0, none, .ptr 0 0⟩], [.blk [.mp 1, .lit (.int .i64 x0.fNext)], .mapo (encM (kI .i64) (vA Antiphonref12Peer.enc) x0.fPeers), .blk x1.enc, .blk r1.1.enc, .blk r2.1.enc]⟩ (AWp.reg Tryd.tyOk hΓ (keep := [105]) (dead := [116]) (by kernel_rfl) rfl (by simp [h32])) ?_
                obtain rfl := some_inj hr
                exact round_go () 5 (by first | (simp; done) | simp [h17, h18, h19, h20, h21, h22, h23, h24, h25, h26, h27, h28, h29, h30, h31, h32])
            · have hr := cond_f h29 hr
              refine AWp.exit ?_
              obtain rfl := some_inj hr
              exact round_out () 5 (by first | (simp; done) | simp [h17, h18, h19, h20, h21, h22, h23, h24, h25, h26, h27, h28, h29])
          · refine AWp.conv hc ?_
            refine AWp.last ⟨[⟨64, none, .lit (.int .i64 (addI .i64 s1 1))⟩, ⟨62, none, .sl (r3.map eTxt) .no⟩, ⟨63, none, .lit (.int .i64 (lenL r3))⟩, ⟨11, none, .sl (r3.map eTxt) .no⟩, ⟨4, none, .ptr 2 0⟩, ⟨0, none, .ptr 0 0⟩], [.blk [.mp 1, .lit (.int .i64 x0.fNext)], .mapo (encM (kI .i64) (vA Antiphonref12Peer.enc) x0.fPeers), .blk x1.enc, .blk r1.1.enc, .blk r2.1.enc]⟩ (AWp.reg Tryd.tyOk hΓ (keep := [64]) (dead := []) (by kernel_rfl) rfl (by simp)) ?_
            obtain rfl := some_inj hr
            exact round_go () 5 (by first | (simp; done) | simp [h17, h18, h19, h20, h21, h22, h23, h24, h25, h26, h27, h28])
      · have hr := cond_f h23 hr
        refine AWp.exit ?_
        obtain rfl := some_inj hr
        exact round_out () 5 (by first | (simp; done) | simp [h17, h18, h19, h20, h21, h22, h23])
    · refine AWp.conv hc ?_
      refine AWp.then ⟨[⟨6, none, .lit (.int .i64 0)⟩], [.blk [.mp 1, .lit (.int .i64 x0.fNext)], .mapo (encM (kI .i64) (vA Antiphonref12Peer.enc) x0.fPeers), .blk x1.enc, .blk r1.1.enc, .blk r2.1.enc]⟩ (AWp.reg Tryd.tyOk hΓ (keep := [6]) (dead := []) (by kernel_rfl) rfl (by simp)) ?_
      refine AWp.ret ?_
      obtain rfl := some_inj hr
      refine fin_ret ?_
      simp

@[simp] noncomputable def gLaw12Is.S : Sp
  | [.ptr i0 0, .agg e1, .lit (.int .i64 x2)], M => match M[i0]? with
    | some (.blk c0) => (match nthE c0 0 with
    | some (.mp i1) => (match M[i1]? with
    | some (.mapo c1) => (fun (y0 : RoomTable) => (fun (y1 : Antiphonref12Table) => some { av := .lit (.int .i64 ((gLaw12Is y0 y1 x2).getD dflt)), M := none, obl := WeakL e1 (Antiphonref12Table.enc y1) ∧ c0 = RoomTable.enc y0 i1 ∧ c1 = encM (kI .i64) (vA Antiphonref12Peer.enc) (y0.fPeers) ∧ (gLaw12Is y0 y1 x2).isSome = true ∧ i0 ≠ i1 }) (Antiphonref12Table.dec e1)) (RoomTable.dec c0 (decM dkI (dvA Antiphonref12Peer.dec) c1))
    | _ => none)
    | _ => none)
    | _ => none
  | _, _ => none

set_option maxHeartbeats 1000000 in
theorem gLaw12Is.ok : SpecOk Tryd.prog 18 gLaw12Is.S := by
  intro l M out h
  unfold gLaw12Is.S at h
  split at h
  · rename_i i0 e1 x2
    split at h
    case h_2 => cases h
    rename_i c0 hM0
    split at h
    case h_2 => cases h
    rename_i i1 he1
    split at h
    case h_2 => cases h
    rename_i c1 hM1
    try dsimp only at h
    cases h
    refine callOk_of fun ho => ?_
    obtain ⟨ox1, oc0, oc1, hs, hne0⟩ := ho
    generalize (RoomTable.dec c0 (decM dkI (dvA Antiphonref12Peer.dec) c1)) = y0 at *
    generalize (Antiphonref12Table.dec e1) = x1 at *
    subst oc0
    subst oc1
    obtain ⟨r, hr⟩ := Option.isSome_iff_exists.1 hs
    simp only [hr, Option.getD_some]
    have q := call_frame (M := M) [i0, i1] (gLaw12Is.can y0 x1 x2 r hr) (by simp [hne0]) rfl (by intro k i hk; (cases k with | zero => (simp at hk; subst hk; simp [hM0, into]) | succ k => ((cases k with | zero => (simp at hk; subst hk; simp [hM1]) | succ k => (simp at hk)))))
    exact callOk_conv q trivial (by simp [into]; exact ox1) (by simp [frameOut, gLaw12Is.out, into]) (by simp only [frameOut, gLaw12Is.out, Option.getD_some, Option.getD_none]; simp [into, hM0, hM1, set_same])
  · cases h

@[simp] def gLaw12RoomPlays.out (_x0 : List Antiphonlaw12Act) (r : Bool) : Out := { av := .lit (.bool r), M := none }
def gLaw12RoomPlays.fin (x0 : List Antiphonlaw12Act) (r : Bool) (σ : St) : Prop := finK (gLaw12RoomPlays.out x0 r) [] σ.M (resA Tryd.ty σ.A σ.M Tryd.f5.results.toList)
set_option maxHeartbeats 4000000 in
set_option maxRecDepth 100000 in
theorem gLaw12RoomPlays.can (x0 : List Antiphonlaw12Act) (r : Bool) (hr : gLaw12RoomPlays x0 = some r) : CallOk Tryd.prog 5 [.sl (x0.map Antiphonlaw12Act.enc) .no] [] (gLaw12RoomPlays.out x0 r) := by
  unfold gLaw12RoomPlays at hr
  have hΓ := (gamL_cons gRoomTableJoin.ok (gamL_cons gRoomTableLeave.ok (gamL_cons gRoomTableTogether.ok (gamL_cons gLaw01Cut.ok (gamL_cons gLaw12Is.ok (gamL_cons gLaw12Awake.ok (gamL_cons gRef12Join.ok (gamL_cons gRef12Leave.ok (gamL_cons gRef12Together.ok (gamL_cons gRoomNew.ok (gamL_nil)))))))))) : GamOk Tryd.prog _)
  refine call_of_awp Tryd.tyOk Tryd.func5 rfl (by kernel_rfl) rfl rfl (by simp) ?_
  intro _ _ _
  refine AWp.then ⟨[⟨0, none, .sl (x0.map Antiphonlaw12Act.enc) .no⟩], []⟩ (AWp.reg Tryd.tyOk hΓ (keep := []) (dead := []) (by kernel_rfl) rfl (by simp)) ?_
  refine AWp.seq ?_
  obtain ⟨r1, h22, hr⟩ := bind_some' hr
  refine AWp.then ⟨[⟨16, none, .lit (.bool (notB r1))⟩, ⟨0, none, .sl (x0.map Antiphonlaw12Act.enc) .no⟩], []⟩ (AWp.reg Tryd.tyOk hΓ (keep := [16]) (dead := []) (by kernel_rfl) rfl (by simp [h22])) ?_
  refine AWp.cond (b := (notB r1)) (by simp) (fun h23 => ?_) (fun h23 => ?_)
  · have hr := cond_t h23 hr
    refine AWp.then ⟨[⟨2, none, .lit (.bool false)⟩], []⟩ (AWp.reg Tryd.tyOk hΓ (keep := [2]) (dead := [16, 0]) (by kernel_rfl) rfl (by simp [h23])) ?_
    refine AWp.ret ?_
    obtain rfl := some_inj hr
    refine fin_ret ?_
    simp
  · have hr := cond_f h23 hr
    refine AWp.skip ?_
    obtain ⟨r2, h24, hr⟩ := bind_some' hr
    refine AWp.then ⟨[⟨3, none, .ptr 1 0⟩, ⟨0, none, .sl (x0.map Antiphonlaw12Act.enc) .no⟩], [.mapo (encM (kI .i64) (vA Antiphonref12Peer.enc) r2.fPeers), .blk [.mp 0, .lit (.int .i64 r2.fNext)]]⟩ (AWp.reg Tryd.tyOk hΓ (keep := [3]) (dead := [16]) (by kernel_rfl) rfl (by simp [h23, h24])) ?_
    refine AWp.then ⟨[⟨4, none, .ptr 2 0⟩, ⟨3, none, .ptr 1 0⟩, ⟨0, none, .sl (x0.map Antiphonlaw12Act.enc) .no⟩], [.mapo (encM (kI .i64) (vA Antiphonref12Peer.enc) r2.fPeers), .blk [.mp 0, .lit (.int .i64 r2.fNext)], .blk [.sl [] .full, .lit (.int .i64 0)]]⟩ (AWp.reg Tryd.tyOk hΓ (keep := [4]) (dead := []) (by kernel_rfl) rfl (by simp)) ?_
    refine AWp.seq ?_
    refine AWp.then ⟨[⟨5, none, .lit (.int .i64 0)⟩, ⟨4, none, .ptr 2 0⟩, ⟨3, none, .ptr 1 0⟩, ⟨0, none, .sl (x0.map Antiphonlaw12Act.enc) .no⟩], [.mapo (encM (kI .i64) (vA Antiphonref12Peer.enc) r2.fPeers), .blk [.mp 0, .lit (.int .i64 r2.fNext)], .blk [.sl [] .full, .lit (.int .i64 0)]]⟩ (AWp.reg Tryd.tyOk hΓ (keep := [5]) (dead := []) (by kernel_rfl) rfl (by simp)) ?_
    refine AWp.loopE (fun (s1 : Int × (List (Int × Antiphonref12Peer)) × Int × Antiphonref12Table) (γ1 : Unit) => ⟨[⟨5, none, .lit (.int .i64 s1.1)⟩, ⟨4, none, .ptr 2 0⟩, ⟨3, none, .ptr 1 0⟩, ⟨0, none, .sl (x0.map Antiphonlaw12Act.enc) .no⟩], [.mapo (encM (kI .i64) (vA Antiphonref12Peer.enc) s1.2.1), .blk [.mp 0, .lit (.int .i64 s1.2.2.1)], .blk s1.2.2.2.enc]⟩) (fun (v1 : (List (Int × Antiphonref12Peer)) × Int × Antiphonref12Table) (γ1a : Unit) => ⟨[], [.mapo (encM (kI .i64) (vA Antiphonref12Peer.enc) v1.1), .blk [.mp 0, .lit (.int .i64 v1.2.1)], .blk v1.2.2.enc]⟩) (gLaw12RoomPlays.fin x0) hr () 3 (by simp) (fun s1 f γ1 hr => ?_) (fun v1 γ1a σ1 m1 hr hc => ?_) (fun _ h => h)
    · unfold gLaw12RoomPlays.loop1 at hr
      refine AWp.seq ?_
      refine AWp.then ⟨[⟨26, none, .lit (.bool (pickB (ltI s1.1 (lenL x0)) (ltI s1.1 120) false))⟩, ⟨5, none, .lit (.int .i64 s1.1)⟩, ⟨4, none, .ptr 2 0⟩, ⟨3, none, .ptr 1 0⟩, ⟨0, none, .sl (x0.map Antiphonlaw12Act.enc) .no⟩], [.mapo (encM (kI .i64) (vA Antiphonref12Peer.enc) s1.2.1), .blk [.mp 0, .lit (.int .i64 s1.2.2.1)], .blk s1.2.2.2.enc]⟩ (AWp.reg Tryd.tyOk hΓ (keep := [26]) (dead := []) (by kernel_rfl) rfl (by simp)) ?_
      refine AWp.cond (b := (pickB (ltI s1.1 (lenL x0)) (ltI s1.1 120) false)) (by simp) (fun h25 => ?_) (fun h25 => ?_)
      · have hr := cond_t h25 hr
        refine AWp.skip ?_
        refine AWp.meetF (fun (v2 : (List (Int × Antiphonref12Peer)) × Int × Antiphonref12Table) (γ2 : Unit) => ⟨[⟨5, none, .lit (.int .i64 s1.1)⟩, ⟨4, none, .ptr 2 0⟩, ⟨3, none, .ptr 1 0⟩, ⟨0, none, .sl (x0.map Antiphonlaw12Act.enc) .no⟩], [.mapo (encM (kI .i64) (vA Antiphonref12Peer.enc) v2.1), .blk [.mp 0, .lit (.int .i64 v2.2.1)], .blk v2.2.2.enc]⟩) (QRr (gLaw12RoomPlays.fin x0)) hr (fun f hr => ?_) (fun v2 γ2 hr => ?_) (fun _ h => QRr_ret h)
        · refine AWp.block ?_
          obtain ⟨h26, hr⟩ := need_some hr
          refine AWp.then ⟨[⟨6, none, .ptr 3 0⟩, ⟨5, none, .lit (.int .i64 s1.1)⟩, ⟨4, none, .ptr 2 0⟩, ⟨3, none, .ptr 1 0⟩, ⟨0, none, .sl (x0.map Antiphonlaw12Act.enc) .no⟩], [.mapo (encM (kI .i64) (vA Antiphonref12Peer.enc) s1.2.1), .blk [.mp 0, .lit (.int .i64 s1.2.2.1)], .blk s1.2.2.2.enc, .blk (nthI x0 s1.1).enc]⟩ (AWp.reg Tryd.tyOk hΓ (keep := [6]) (dead := [26]) (by kernel_rfl) rfl (by simp [h25, h26])) ?_
          refine AWp.meetF (fun (v3 : (List (Int × Antiphonref12Peer)) × Int × Antiphonref12Table × Antiphonlaw12Act) (γ3 : Unit) => ⟨[⟨6, none, .ptr 3 0⟩, ⟨5, none, .lit (.int .i64 s1.1)⟩, ⟨4, none, .ptr 2 0⟩, ⟨3, none, .ptr 1 0⟩, ⟨0, none, .sl (x0.map Antiphonlaw12Act.enc) .no⟩], [.mapo (encM (kI .i64) (vA Antiphonref12Peer.enc) v3.1), .blk [.mp 0, .lit (.int .i64 v3.2.1)], .blk v3.2.2.1.enc, .blk v3.2.2.2.enc]⟩) (QRm (QRr (gLaw12RoomPlays.fin x0))) hr (fun f hr => ?_) (fun v3 γ3 hr => ?_) (fun _ h => QRm_ret h)
          · refine AWp.then ⟨[⟨34, none, .lit (.int .i64 ((nthI x0 s1.1).fKind))⟩, ⟨6, none, .ptr 3 0⟩, ⟨5, none, .lit (.int .i64 s1.1)⟩, ⟨4, none, .ptr 2 0⟩, ⟨3, none, .ptr 1 0⟩, ⟨0, none, .sl (x0.map Antiphonlaw12Act.enc) .no⟩], [.mapo (encM (kI .i64) (vA Antiphonref12Peer.enc) s1.2.1), .blk [.mp 0, .lit (.int .i64 s1.2.2.1)], .blk s1.2.2.2.enc, .blk (nthI x0 s1.1).enc]⟩ (AWp.reg Tryd.tyOk hΓ (keep := [34]) (dead := []) (by kernel_rfl) rfl (by simp)) ?_
            refine AWp.block ?_
            refine AWp.then ⟨[⟨35, none, .lit (.bool (eqI ((nthI x0 s1.1).fKind) 1))⟩, ⟨34, none, .lit (.int .i64 ((nthI x0 s1.1).fKind))⟩, ⟨6, none, .ptr 3 0⟩, ⟨5, none, .lit (.int .i64 s1.1)⟩, ⟨4, none, .ptr 2 0⟩, ⟨3, none, .ptr 1 0⟩, ⟨0, none, .sl (x0.map Antiphonlaw12Act.enc) .no⟩], [.mapo (encM (kI .i64) (vA Antiphonref12Peer.enc) s1.2.1), .blk [.mp 0, .lit (.int .i64 s1.2.2.1)], .blk s1.2.2.2.enc, .blk (nthI x0 s1.1).enc]⟩ (AWp.reg Tryd.tyOk hΓ (keep := [35]) (dead := []) (by kernel_rfl) rfl (by simp)) ?_
            refine AWp.cond (b := (eqI ((nthI x0 s1.1).fKind) 1)) (by simp) (fun h27 => ?_) (fun h27 => ?_)
            · have hr := cond_t h27 hr
              obtain ⟨r3, h28, hr⟩ := bind_some' hr
              obtain ⟨r4, h29, hr⟩ := bind_some' hr
              refine AWp.then ⟨[⟨6, none, .ptr 3 0⟩, ⟨5, none, .lit (.int .i64 s1.1)⟩, ⟨4, none, .ptr 2 0⟩, ⟨3, none, .ptr 1 0⟩, ⟨0, none, .sl (x0.map Antiphonlaw12Act.enc) .no⟩], [.mapo (encM (kI .i64) (vA Antiphonref12Peer.enc) s1.2.1), .blk [.mp 0, .lit (.int .i64 s1.2.2.1)], .blk s1.2.2.2.enc, .blk [.lit (.int .i64 ((nthI x0 s1.1).fKind)), .lit (.int .i64 ((nthI x0 s1.1).fN)), .lit (.string r3), .lit (.string r4)]]⟩ (AWp.regD Tryd.mixed Tryd.tyOk hΓ (keep := []) (dead := [35, 34]) [] [(false, []), (false, []), (false, []), (false, []), (false, []), (false, []), (false, []), (true, []), (false, []), (true, [])] (by kernel_rfl) rfl (by simp [h27, h28, h29])) ?_
              obtain ⟨r5, h30, hr⟩ := bind_some' hr
              refine AWp.then ⟨[⟨7, none, .lit (.int .i64 r5.1)⟩, ⟨8, none, .lit (.int .i64 r5.2.1)⟩, ⟨6, none, .ptr 3 0⟩, ⟨5, none, .lit (.int .i64 s1.1)⟩, ⟨4, none, .ptr 2 0⟩, ⟨3, none, .ptr 1 0⟩, ⟨0, none, .sl (x0.map Antiphonlaw12Act.enc) .no⟩], [.mapo (encM (kI .i64) (vA Antiphonref12Peer.enc) r5.2.2.fPeers), .blk [.mp 0, .lit (.int .i64 r5.2.2.fNext)], .blk s1.2.2.2.enc, .blk [.lit (.int .i64 ((nthI x0 s1.1).fKind)), .lit (.int .i64 ((nthI x0 s1.1).fN)), .lit (.string r3), .lit (.string r4)]]⟩ (AWp.reg Tryd.tyOk hΓ (keep := [7, 8]) (dead := []) (by kernel_rfl) rfl (by simp [h30])) ?_
              obtain ⟨r6, h31, hr⟩ := bind_some' hr
              refine AWp.then ⟨[⟨9, none, .ptr 4 0⟩, ⟨10, none, .lit (.int .i64 r6.2.1)⟩, ⟨11, none, .lit (.int .i64 r6.2.2)⟩, ⟨7, none, .lit (.int .i64 r5.1)⟩, ⟨8, none, .lit (.int .i64 r5.2.1)⟩, ⟨6, none, .ptr 3 0⟩, ⟨5, none, .lit (.int .i64 s1.1)⟩, ⟨4, none, .ptr 2 0⟩, ⟨3, none, .ptr 1 0⟩, ⟨0, none, .sl (x0.map Antiphonlaw12Act.enc) .no⟩], [.mapo (encM (kI .i64) (vA Antiphonref12Peer.enc) r5.2.2.fPeers), .blk [.mp 0, .lit (.int .i64 r5.2.2.fNext)], .blk s1.2.2.2.enc, .blk [.lit (.int .i64 ((nthI x0 s1.1).fKind)), .lit (.int .i64 ((nthI x0 s1.1).fN)), .lit (.string r3), .lit (.string r4)], .blk r6.1.enc]⟩ (AWp.reg Tryd.tyOk hΓ (keep := [9, 10, 11]) (dead := []) (by kernel_rfl) rfl (by simp [h31])) ?_
              refine AWp.then ⟨[⟨10, none, .lit (.int .i64 r6.2.1)⟩, ⟨11, none, .lit (.int .i64 r6.2.2)⟩, ⟨7, none, .lit (.int .i64 r5.1)⟩, ⟨8, none, .lit (.int .i64 r5.2.1)⟩, ⟨6, none, .ptr 3 0⟩, ⟨5, none, .lit (.int .i64 s1.1)⟩, ⟨4, none, .ptr 2 0⟩, ⟨3, none, .ptr 1 0⟩, ⟨0, none, .sl (x0.map Antiphonlaw12Act.enc) .no⟩], [.mapo (encM (kI .i64) (vA Antiphonref12Peer.enc) r5.2.2.fPeers), .blk [.mp 0, .lit (.int .i64 r5.2.2.fNext)], .blk r6.1.enc, .blk [.lit (.int .i64 ((nthI x0 s1.1).fKind)), .lit (.int .i64 ((nthI x0 s1.1).fN)), .lit (.string r3), .lit (.string r4)], .blk r6.1.enc]⟩ (AWp.reg Tryd.tyOk hΓ (keep := []) (dead := [9]) (by kernel_rfl) rfl (by simp)) ?_
              refine AWp.then ⟨[⟨72, none, .lit (.bool (pickB (neI r5.1 r6.2.1) true (neI r5.2.1 r6.2.2)))⟩, ⟨6, none, .ptr 3 0⟩, ⟨5, none, .lit (.int .i64 s1.1)⟩, ⟨4, none, .ptr 2 0⟩, ⟨3, none, .ptr 1 0⟩, ⟨0, none, .sl (x0.map Antiphonlaw12Act.enc) .no⟩], [.mapo (encM (kI .i64) (vA Antiphonref12Peer.enc) r5.2.2.fPeers), .blk [.mp 0, .lit (.int .i64 r5.2.2.fNext)], .blk r6.1.enc, .blk [.lit (.int .i64 ((nthI x0 s1.1).fKind)), .lit (.int .i64 ((nthI x0 s1.1).fN)), .lit (.string r3), .lit (.string r4)], .blk r6.1.enc]⟩ (AWp.reg Tryd.tyOk hΓ (keep := [72]) (dead := [10, 11, 7, 8]) (by kernel_rfl) rfl (by simp)) ?_
              refine AWp.cond (b := (pickB (neI r5.1 r6.2.1) true (neI r5.2.1 r6.2.2))) (by simp) (fun h32 => ?_) (fun h32 => ?_)
              · have hr := cond_t h32 hr
                refine AWp.then ⟨[⟨2, none, .lit (.bool false)⟩], [.mapo (encM (kI .i64) (vA Antiphonref12Peer.enc) r5.2.2.fPeers), .blk [.mp 0, .lit (.int .i64 r5.2.2.fNext)], .blk r6.1.enc, .blk [.lit (.int .i64 ((nthI x0 s1.1).fKind)), .lit (.int .i64 ((nthI x0 s1.1).fN)), .lit (.string r3), .lit (.string r4)], .blk r6.1.enc]⟩ (AWp.reg Tryd.tyOk hΓ (keep := [2]) (dead := [72, 6, 5, 4, 3, 0]) (by kernel_rfl) rfl (by simp [h32])) ?_
                refine AWp.ret ?_
                obtain rfl := some_inj hr
                refine meet_ret ?_
                refine ⟨_, rfl, ?_⟩
                refine ⟨_, rfl, ?_⟩
                refine fin_ret ?_
                simp
              · have hr := cond_f h32 hr
                refine AWp.skip ?_
                obtain rfl := some_inj hr
                exact meet_go () 4 (by first | (simp; done) | simp [h22, h23, h24, h25, h26, h27, h28, h29, h30, h31, h32])
            · have hr := cond_f h27 hr
              refine AWp.then ⟨[⟨73, none, .lit (.bool (eqI ((nthI x0 s1.1).fKind) 2))⟩, ⟨6, none, .ptr 3 0⟩, ⟨5, none, .lit (.int .i64 s1.1)⟩, ⟨4, none, .ptr 2 0⟩, ⟨3, none, .ptr 1 0⟩, ⟨0, none, .sl (x0.map Antiphonlaw12Act.enc) .no⟩], [.mapo (encM (kI .i64) (vA Antiphonref12Peer.enc) s1.2.1), .blk [.mp 0, .lit (.int .i64 s1.2.2.1)], .blk s1.2.2.2.enc, .blk (nthI x0 s1.1).enc]⟩ (AWp.reg Tryd.tyOk hΓ (keep := [73]) (dead := [35, 34]) (by kernel_rfl) rfl (by simp [h27])) ?_
              refine AWp.cond (b := (eqI ((nthI x0 s1.1).fKind) 2)) (by simp) (fun h33 => ?_) (fun h33 => ?_)
              · have hr := cond_t h33 hr
                obtain ⟨r7, h34, hr⟩ := bind_some' hr
                refine AWp.then ⟨[⟨12, none, .lit (.int .i64 r7.1)⟩, ⟨6, none, .ptr 3 0⟩, ⟨5, none, .lit (.int .i64 s1.1)⟩, ⟨4, none, .ptr 2 0⟩, ⟨3, none, .ptr 1 0⟩, ⟨0, none, .sl (x0.map Antiphonlaw12Act.enc) .no⟩], [.mapo (encM (kI .i64) (vA Antiphonref12Peer.enc) r7.2.fPeers), .blk [.mp 0, .lit (.int .i64 r7.2.fNext)], .blk s1.2.2.2.enc, .blk (nthI x0 s1.1).enc]⟩ (AWp.reg Tryd.tyOk hΓ (keep := [12]) (dead := [73]) (by kernel_rfl) rfl (by simp [h33, h34])) ?_
                obtain ⟨r8, h35, hr⟩ := bind_some' hr
                refine AWp.then ⟨[⟨13, none, .ptr 4 0⟩, ⟨14, none, .lit (.int .i64 r8.2)⟩, ⟨12, none, .lit (.int .i64 r7.1)⟩, ⟨6, none, .ptr 3 0⟩, ⟨5, none, .lit (.int .i64 s1.1)⟩, ⟨4, none, .ptr 2 0⟩, ⟨3, none, .ptr 1 0⟩, ⟨0, none, .sl (x0.map Antiphonlaw12Act.enc) .no⟩], [.mapo (encM (kI .i64) (vA Antiphonref12Peer.enc) r7.2.fPeers), .blk [.mp 0, .lit (.int .i64 r7.2.fNext)], .blk s1.2.2.2.enc, .blk (nthI x0 s1.1).enc, .blk r8.1.enc]⟩ (AWp.reg Tryd.tyOk hΓ (keep := [13, 14]) (dead := []) (by kernel_rfl) rfl (by simp [h35])) ?_
                refine AWp.then ⟨[⟨14, none, .lit (.int .i64 r8.2)⟩, ⟨12, none, .lit (.int .i64 r7.1)⟩, ⟨6, none, .ptr 3 0⟩, ⟨5, none, .lit (.int .i64 s1.1)⟩, ⟨4, none, .ptr 2 0⟩, ⟨3, none, .ptr 1 0⟩, ⟨0, none, .sl (x0.map Antiphonlaw12Act.enc) .no⟩], [.mapo (encM (kI .i64) (vA Antiphonref12Peer.enc) r7.2.fPeers), .blk [.mp 0, .lit (.int .i64 r7.2.fNext)], .blk r8.1.enc, .blk (nthI x0 s1.1).enc, .blk r8.1.enc]⟩ (AWp.reg Tryd.tyOk hΓ (keep := []) (dead := [13]) (by kernel_rfl) rfl (by simp)) ?_
                refine AWp.then ⟨[⟨89, none, .lit (.bool (neI r7.1 r8.2))⟩, ⟨6, none, .ptr 3 0⟩, ⟨5, none, .lit (.int .i64 s1.1)⟩, ⟨4, none, .ptr 2 0⟩, ⟨3, none, .ptr 1 0⟩, ⟨0, none, .sl (x0.map Antiphonlaw12Act.enc) .no⟩], [.mapo (encM (kI .i64) (vA Antiphonref12Peer.enc) r7.2.fPeers), .blk [.mp 0, .lit (.int .i64 r7.2.fNext)], .blk r8.1.enc, .blk (nthI x0 s1.1).enc, .blk r8.1.enc]⟩ (AWp.reg Tryd.tyOk hΓ (keep := [89]) (dead := [14, 12]) (by kernel_rfl) rfl (by simp)) ?_
                refine AWp.cond (b := (neI r7.1 r8.2)) (by simp) (fun h36 => ?_) (fun h36 => ?_)
                · have hr := cond_t h36 hr
                  refine AWp.then ⟨[⟨2, none, .lit (.bool false)⟩], [.mapo (encM (kI .i64) (vA Antiphonref12Peer.enc) r7.2.fPeers), .blk [.mp 0, .lit (.int .i64 r7.2.fNext)], .blk r8.1.enc, .blk (nthI x0 s1.1).enc, .blk r8.1.enc]⟩ (AWp.reg Tryd.tyOk hΓ (keep := [2]) (dead := [89, 6, 5, 4, 3, 0]) (by kernel_rfl) rfl (by simp [h36])) ?_
                  refine AWp.ret ?_
                  obtain rfl := some_inj hr
                  refine meet_ret ?_
                  refine ⟨_, rfl, ?_⟩
                  refine ⟨_, rfl, ?_⟩
                  refine fin_ret ?_
                  simp
                · have hr := cond_f h36 hr
                  refine AWp.skip ?_
                  obtain rfl := some_inj hr
                  exact meet_go () 4 (by first | (simp; done) | simp [h22, h23, h24, h25, h26, h27, h33, h34, h35, h36])
              · have hr := cond_f h33 hr
                refine AWp.skip ?_
                obtain rfl := some_inj hr
                exact meet_go () 4 (by first | (simp; done) | simp [h22, h23, h24, h25, h26, h27, h33])
          · obtain ⟨r9, h37, hr⟩ := bind_some' hr
            obtain ⟨h38, hr⟩ := need_some hr
            obtain ⟨h39, hr⟩ := need_some hr
            obtain ⟨h40, hr⟩ := need_some hr
            obtain ⟨h41, hr⟩ := need_some hr
            refine AWp.then ⟨[⟨110, none, .lit (.bool (pickB (neI r9 0) true (neB ((gRoomTableTogether (RoomTable.mk v3.1 v3.2.1) v3.2.2.2.fN (quoI .i64 s1.1 2)).getD dflt) ((gRef12Together v3.2.2.1 v3.2.2.2.fN (quoI .i64 s1.1 2)).getD dflt))))⟩, ⟨5, none, .lit (.int .i64 s1.1)⟩, ⟨4, none, .ptr 2 0⟩, ⟨3, none, .ptr 1 0⟩, ⟨0, none, .sl (x0.map Antiphonlaw12Act.enc) .no⟩], [.mapo (encM (kI .i64) (vA Antiphonref12Peer.enc) v3.1), .blk [.mp 0, .lit (.int .i64 v3.2.1)], .blk v3.2.2.1.enc, .blk v3.2.2.2.enc]⟩ (AWp.regD Tryd.mixed Tryd.tyOk hΓ (keep := [110]) (dead := [6]) [] [(false, []), (false, []), (false, []), (false, []), (false, []), (false, []), (false, []), (false, [96]), (false, [96]), (false, [96]), (false, [96]), (false, [96]), (false, [96]), (false, [96]), (false, [96]), (false, [96]), (false, [96]), (false, [96]), (false, [96]), (false, [96]), (false, [])] (by kernel_rfl) rfl (by simp [h37, h38, h39, h41])) ?_
            refine AWp.cond (b := (pickB (neI r9 0) true (neB ((gRoomTableTogether (RoomTable.mk v3.1 v3.2.1) v3.2.2.2.fN (quoI .i64 s1.1 2)).getD dflt) ((gRef12Together v3.2.2.1 v3.2.2.2.fN (quoI .i64 s1.1 2)).getD dflt)))) (by simp) (fun h42 => ?_) (fun h42 => ?_)
            · have hr := cond_t h42 hr
              refine AWp.then ⟨[⟨2, none, .lit (.bool false)⟩], [.mapo (encM (kI .i64) (vA Antiphonref12Peer.enc) v3.1), .blk [.mp 0, .lit (.int .i64 v3.2.1)], .blk v3.2.2.1.enc, .blk v3.2.2.2.enc]⟩ (AWp.reg Tryd.tyOk hΓ (keep := [2]) (dead := [110, 5, 4, 3, 0]) (by kernel_rfl) rfl (by simp [h42])) ?_
              refine AWp.ret ?_
              obtain rfl := some_inj hr
              refine meet_ret ?_
              refine ⟨_, rfl, ?_⟩
              refine fin_ret ?_
              simp
            · have hr := cond_f h42 hr
              refine AWp.skip ?_
              obtain rfl := some_inj hr
              exact meet_go () 3 (by first | (simp; done) | simp [h22, h23, h24, h25, h26, h37, h38, h39, h40, h41, h42])
        · refine AWp.last ⟨[⟨5, none, .lit (.int .i64 (addI .i64 s1.1 1))⟩, ⟨4, none, .ptr 2 0⟩, ⟨3, none, .ptr 1 0⟩, ⟨0, none, .sl (x0.map Antiphonlaw12Act.enc) .no⟩], [.mapo (encM (kI .i64) (vA Antiphonref12Peer.enc) v2.1), .blk [.mp 0, .lit (.int .i64 v2.2.1)], .blk v2.2.2.enc]⟩ (AWp.reg Tryd.tyOk hΓ (keep := [5]) (dead := []) (by kernel_rfl) rfl (by simp)) ?_
          obtain rfl := some_inj hr
          exact round_go () 3 (by first | (simp; done) | simp [h22, h23, h24, h25])
      · have hr := cond_f h25 hr
        refine AWp.exit ?_
        obtain rfl := some_inj hr
        exact round_out () 3 (by first | (simp; done) | simp [h22, h23, h24, h25])
    · refine AWp.conv hc ?_
      refine AWp.then ⟨[⟨2, none, .lit (.bool true)⟩], [.mapo (encM (kI .i64) (vA Antiphonref12Peer.enc) v1.1), .blk [.mp 0, .lit (.int .i64 v1.2.1)], .blk v1.2.2.enc]⟩ (AWp.reg Tryd.tyOk hΓ (keep := [2]) (dead := []) (by kernel_rfl) rfl (by simp)) ?_
      refine AWp.ret ?_
      obtain rfl := some_inj hr
      refine fin_ret ?_
      simp

@[simp] noncomputable def gLaw12RoomPlays.S : Sp
  | [.sl e0 _], _ => some { av := .lit (.bool ((gLaw12RoomPlays (e0.map Antiphonlaw12Act.dec)).getD dflt)), M := none, obl := e0 = (e0.map Antiphonlaw12Act.dec).map Antiphonlaw12Act.enc ∧ (gLaw12RoomPlays (e0.map Antiphonlaw12Act.dec)).isSome = true }
  | _, _ => none

set_option maxHeartbeats 1000000 in
theorem gLaw12RoomPlays.ok : SpecOk Tryd.prog 5 gLaw12RoomPlays.S := by
  intro l M out h
  unfold gLaw12RoomPlays.S at h
  split at h
  · rename_i e0 k0
    cases h
    refine callOk_of fun ho => ?_
    obtain ⟨ox0, hs⟩ := ho
    generalize (e0.map Antiphonlaw12Act.dec) = x0 at *
    subst ox0
    obtain ⟨r, hr⟩ := Option.isSome_iff_exists.1 hs
    simp only [hr, Option.getD_some]
    have q := call_frame (M := M) [] (gLaw12RoomPlays.can x0 r hr) (by simp) rfl (by intro k i hk; simp at hk)
    exact callOk_conv q trivial (by simp) (by simp [frameOut, gLaw12RoomPlays.out]) (by simp [frameOut, gLaw12RoomPlays.out])
  · cases h
end Go.Proofs

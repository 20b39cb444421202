/- That these functions compute what their plain functions do. No condition. -/
import Derived.Test.YtbijdlgffebenaaM08
import Derived.Test.YtbijdlgffebenaaTy
import Derived.Test.YtbijdlgffebenaaOx
import Derived.Test.YtbijdlgffebenaaIg
import Derived.Test.YtbijdlgffebenaaFr
namespace Go.Proofs
open Go.Ab
@[simp] def gLaw11Stream.out (_x0 : Int) (_x1 : List Int) (r : List Antiphonref03Packet) : Out := { av := .sl (r.map Antiphonref03Packet.enc) .no, M := none }
def gLaw11Stream.fin (x0 : Int) (x1 : List Int) (r : List Antiphonref03Packet) (σ : St) : Prop := finK (gLaw11Stream.out x0 x1 r) [] σ.M (resA Try.ty σ.A σ.M Try.f9.results.toList)
set_option maxHeartbeats 4000000 in
set_option maxRecDepth 100000 in
theorem gLaw11Stream.can (x0 : Int) (x1 : List Int) (r : List Antiphonref03Packet) (hr : gLaw11Stream x0 x1 = some r) : CallOk Try.prog 9 [.lit (.int .u16 x0), .sl (x1.map (eNum .i64)) .no] [] (gLaw11Stream.out x0 x1 r) := by
  unfold gLaw11Stream at hr
  have hΓ := (gamL_cons gVp8DescText.ok (gamL_cons gVp8Plain.ok (gamL_nil)) : GamOk Try.prog _)
  refine call_of_awp Try.tyOk Try.func9 rfl (by kernel_rfl) rfl rfl (by simp) ?_
  intro _ _ _
  refine AWp.then ⟨[⟨0, none, .lit (.int .u16 x0)⟩, ⟨1, none, .sl (x1.map (eNum .i64)) .no⟩], []⟩ (AWp.reg Try.tyOk hΓ (keep := []) (dead := []) (by kernel_rfl) rfl (by simp)) ?_
  refine AWp.then ⟨[⟨5, none, .sl [] .full⟩, ⟨0, none, .lit (.int .u16 x0)⟩, ⟨1, none, .sl (x1.map (eNum .i64)) .no⟩], []⟩ (AWp.reg Try.tyOk hΓ (keep := [5]) (dead := []) (by kernel_rfl) rfl (by simp)) ?_
  refine AWp.seq ?_
  refine AWp.then ⟨[⟨6, none, .lit (.int .i64 0)⟩, ⟨5, none, .sl [] .full⟩, ⟨0, none, .lit (.int .u16 x0)⟩, ⟨1, none, .sl (x1.map (eNum .i64)) .no⟩], []⟩ (AWp.reg Try.tyOk hΓ (keep := [6]) (dead := []) (by kernel_rfl) rfl (by simp)) ?_
  refine AWp.equip 5 11 (els := []) (by simp) (by simp) ?_
  refine AWp.loopE (fun (s1 : Int × List Antiphonref03Packet) (γ1 : Nat) => ⟨[⟨6, none, .lit (.int .i64 s1.1)⟩, ⟨5, none, .sl (s1.2.map Antiphonref03Packet.enc) (.own 0 (γ1) 11)⟩, ⟨0, none, .lit (.int .u16 x0)⟩, ⟨1, none, .sl (x1.map (eNum .i64)) .no⟩], [.room (γ1)]⟩) (fun (v1 : List Antiphonref03Packet) (γ1a : Nat) => ⟨[⟨5, none, .sl (v1.map Antiphonref03Packet.enc) (.own 0 (γ1a) 11)⟩], [.room (γ1a)]⟩) (gLaw11Stream.fin x0 x1) hr 0 1 (by simp) (fun s1 f γ1 hr => ?_) (fun v1 γ1a σ1 m1 hr hc => ?_) (fun _ h => h)
  · unfold gLaw11Stream.loop1 at hr
    refine AWp.seq ?_
    refine AWp.then ⟨[⟨20, none, .lit (.bool (pickB (ltI s1.1 (lenL x1)) (ltI (lenL s1.2) 56) false))⟩, ⟨6, none, .lit (.int .i64 s1.1)⟩, ⟨5, none, .sl (s1.2.map Antiphonref03Packet.enc) (.own 0 (γ1) 11)⟩, ⟨0, none, .lit (.int .u16 x0)⟩, ⟨1, none, .sl (x1.map (eNum .i64)) .no⟩], [.room (γ1)]⟩ (AWp.reg Try.tyOk hΓ (keep := [20]) (dead := []) (by kernel_rfl) rfl (by simp)) ?_
    refine AWp.cond (b := (pickB (ltI s1.1 (lenL x1)) (ltI (lenL s1.2) 56) false)) (by simp) (fun h10 => ?_) (fun h10 => ?_)
    · have hr := cond_t h10 hr
      refine AWp.skip ?_
      refine AWp.seq ?_
      refine AWp.block ?_
      obtain ⟨h11, hr⟩ := need_some hr
      refine AWp.then ⟨[⟨7, none, .lit (.int .i64 (addI .i64 1 (bitsOp .and .i64 (nthI x1 s1.1) 3)))⟩, ⟨6, none, .lit (.int .i64 s1.1)⟩, ⟨5, none, .sl (s1.2.map Antiphonref03Packet.enc) (.own 0 (γ1) 11)⟩, ⟨0, none, .lit (.int .u16 x0)⟩, ⟨1, none, .sl (x1.map (eNum .i64)) .no⟩], [.room (γ1)]⟩ (AWp.reg Try.tyOk hΓ (keep := [7]) (dead := [20]) (by kernel_rfl) rfl (by simp [h10, h11])) ?_
      refine AWp.then ⟨[⟨29, none, .lit (.int .i64 (addI .i64 1 (bitsOp .and .i64 (nthI x1 s1.1) 3)))⟩, ⟨30, none, .lit (.int .i64 0)⟩, ⟨7, none, .lit (.int .i64 (addI .i64 1 (bitsOp .and .i64 (nthI x1 s1.1) 3)))⟩, ⟨6, none, .lit (.int .i64 s1.1)⟩, ⟨5, none, .sl (s1.2.map Antiphonref03Packet.enc) (.own 0 (γ1) 11)⟩, ⟨0, none, .lit (.int .u16 x0)⟩, ⟨1, none, .sl (x1.map (eNum .i64)) .no⟩], [.room (γ1)]⟩ (AWp.reg Try.tyOk hΓ (keep := [29, 30]) (dead := []) (by kernel_rfl) rfl (by simp)) ?_
      refine AWp.loopE (fun (s2 : Int × List Antiphonref03Packet) (γ2 : Nat) => ⟨[⟨29, none, .lit (.int .i64 (addI .i64 1 (bitsOp .and .i64 (nthI x1 s1.1) 3)))⟩, ⟨30, none, .lit (.int .i64 s2.1)⟩, ⟨7, none, .lit (.int .i64 (addI .i64 1 (bitsOp .and .i64 (nthI x1 s1.1) 3)))⟩, ⟨6, none, .lit (.int .i64 s1.1)⟩, ⟨5, none, .sl (s2.2.map Antiphonref03Packet.enc) (.own 0 (γ2) 11)⟩, ⟨0, none, .lit (.int .u16 x0)⟩, ⟨1, none, .sl (x1.map (eNum .i64)) .no⟩], [.room (γ2)]⟩) (fun (v2 : List Antiphonref03Packet) (γ2a : Nat) => ⟨[⟨6, none, .lit (.int .i64 s1.1)⟩, ⟨5, none, .sl (v2.map Antiphonref03Packet.enc) (.own 0 (γ2a) 11)⟩, ⟨0, none, .lit (.int .u16 x0)⟩, ⟨1, none, .sl (x1.map (eNum .i64)) .no⟩], [.room (γ2a)]⟩) (QRr (gLaw11Stream.fin x0 x1)) hr (γ1) 1 (by simp) (fun s2 f γ2 hr => ?_) (fun v2 γ2a σ1 m1 hr hc => ?_) (fun _ h => QRr_ret h)
      · unfold gLaw11Stream.loop2 at hr
        refine AWp.then ⟨[⟨31, none, .lit (.bool (ltI s2.1 (addI .i64 1 (bitsOp .and .i64 (nthI x1 s1.1) 3))))⟩, ⟨29, none, .lit (.int .i64 (addI .i64 1 (bitsOp .and .i64 (nthI x1 s1.1) 3)))⟩, ⟨30, none, .lit (.int .i64 s2.1)⟩, ⟨7, none, .lit (.int .i64 (addI .i64 1 (bitsOp .and .i64 (nthI x1 s1.1) 3)))⟩, ⟨6, none, .lit (.int .i64 s1.1)⟩, ⟨5, none, .sl (s2.2.map Antiphonref03Packet.enc) (.own 0 (γ2) 11)⟩, ⟨0, none, .lit (.int .u16 x0)⟩, ⟨1, none, .sl (x1.map (eNum .i64)) .no⟩], [.room (γ2)]⟩ (AWp.reg Try.tyOk hΓ (keep := [31]) (dead := []) (by kernel_rfl) rfl (by simp)) ?_
        refine AWp.seq ?_
        refine AWp.cond (b := (ltI s2.1 (addI .i64 1 (bitsOp .and .i64 (nthI x1 s1.1) 3)))) (by simp) (fun h12 => ?_) (fun h12 => ?_)
        · have hr := cond_t h12 hr
          refine AWp.skip ?_
          refine AWp.seq ?_
          refine AWp.block ?_
          refine AWp.then ⟨[⟨8, none, .lit (.int .i64 s2.1)⟩, ⟨29, none, .lit (.int .i64 (addI .i64 1 (bitsOp .and .i64 (nthI x1 s1.1) 3)))⟩, ⟨30, none, .lit (.int .i64 s2.1)⟩, ⟨7, none, .lit (.int .i64 (addI .i64 1 (bitsOp .and .i64 (nthI x1 s1.1) 3)))⟩, ⟨6, none, .lit (.int .i64 s1.1)⟩, ⟨5, none, .sl (s2.2.map Antiphonref03Packet.enc) (.own 0 (γ2) 11)⟩, ⟨0, none, .lit (.int .u16 x0)⟩, ⟨1, none, .sl (x1.map (eNum .i64)) .no⟩], [.room (γ2)]⟩ (AWp.reg Try.tyOk hΓ (keep := [8]) (dead := [31]) (by kernel_rfl) rfl (by simp [h12])) ?_
          obtain ⟨r1, h13, hr⟩ := bind_some' hr
          refine AWp.then ⟨[⟨9, none, .ptr 1 0⟩, ⟨8, none, .lit (.int .i64 s2.1)⟩, ⟨29, none, .lit (.int .i64 (addI .i64 1 (bitsOp .and .i64 (nthI x1 s1.1) 3)))⟩, ⟨30, none, .lit (.int .i64 s2.1)⟩, ⟨7, none, .lit (.int .i64 (addI .i64 1 (bitsOp .and .i64 (nthI x1 s1.1) 3)))⟩, ⟨6, none, .lit (.int .i64 s1.1)⟩, ⟨5, none, .sl (s2.2.map Antiphonref03Packet.enc) (.own 0 (γ2) 11)⟩, ⟨0, none, .lit (.int .u16 x0)⟩, ⟨1, none, .sl (x1.map (eNum .i64)) .no⟩], [.room (γ2), .blk r1.enc]⟩ (AWp.reg Try.tyOk hΓ (keep := [9]) (dead := []) (by kernel_rfl) rfl (by simp [h13])) ?_
          refine AWp.then ⟨[⟨9, none, .ptr 1 0⟩, ⟨8, none, .lit (.int .i64 s2.1)⟩, ⟨29, none, .lit (.int .i64 (addI .i64 1 (bitsOp .and .i64 (nthI x1 s1.1) 3)))⟩, ⟨30, none, .lit (.int .i64 s2.1)⟩, ⟨7, none, .lit (.int .i64 (addI .i64 1 (bitsOp .and .i64 (nthI x1 s1.1) 3)))⟩, ⟨6, none, .lit (.int .i64 s1.1)⟩, ⟨5, none, .sl (s2.2.map Antiphonref03Packet.enc) (.own 0 (γ2) 11)⟩, ⟨0, none, .lit (.int .u16 x0)⟩, ⟨1, none, .sl (x1.map (eNum .i64)) .no⟩], [.room (γ2), .blk [.lit (.bool r1.fNonRef), .lit (.bool (eqI s2.1 0)), .lit (.int .i64 r1.fPart), .lit (.int .i64 r1.fPicture), .lit (.bool r1.fWide), .lit (.int .i64 r1.fLevel), .lit (.int .i64 r1.fLayer), .lit (.bool r1.fSync), .lit (.int .i64 r1.fKey)]]⟩ (AWp.reg Try.tyOk hΓ (keep := []) (dead := []) (by kernel_rfl) rfl (by simp)) ?_
          refine AWp.then ⟨[⟨10, none, .lit (.int .u8 1)⟩, ⟨9, none, .ptr 1 0⟩, ⟨8, none, .lit (.int .i64 s2.1)⟩, ⟨29, none, .lit (.int .i64 (addI .i64 1 (bitsOp .and .i64 (nthI x1 s1.1) 3)))⟩, ⟨30, none, .lit (.int .i64 s2.1)⟩, ⟨7, none, .lit (.int .i64 (addI .i64 1 (bitsOp .and .i64 (nthI x1 s1.1) 3)))⟩, ⟨6, none, .lit (.int .i64 s1.1)⟩, ⟨5, none, .sl (s2.2.map Antiphonref03Packet.enc) (.own 0 (γ2) 11)⟩, ⟨0, none, .lit (.int .u16 x0)⟩, ⟨1, none, .sl (x1.map (eNum .i64)) .no⟩], [.room (γ2), .blk [.lit (.bool r1.fNonRef), .lit (.bool (eqI s2.1 0)), .lit (.int .i64 r1.fPart), .lit (.int .i64 r1.fPicture), .lit (.bool r1.fWide), .lit (.int .i64 r1.fLevel), .lit (.int .i64 r1.fLayer), .lit (.bool r1.fSync), .lit (.int .i64 r1.fKey)]]⟩ (AWp.reg Try.tyOk hΓ (keep := [10]) (dead := []) (by kernel_rfl) rfl (by simp)) ?_
          refine AWp.meetF (fun (v3 : Int) (γ3 : Unit) => ⟨[⟨10, none, .lit (.int .u8 v3)⟩, ⟨9, none, .ptr 1 0⟩, ⟨8, none, .lit (.int .i64 s2.1)⟩, ⟨29, none, .lit (.int .i64 (addI .i64 1 (bitsOp .and .i64 (nthI x1 s1.1) 3)))⟩, ⟨30, none, .lit (.int .i64 s2.1)⟩, ⟨7, none, .lit (.int .i64 (addI .i64 1 (bitsOp .and .i64 (nthI x1 s1.1) 3)))⟩, ⟨6, none, .lit (.int .i64 s1.1)⟩, ⟨5, none, .sl (s2.2.map Antiphonref03Packet.enc) (.own 0 (γ2) 11)⟩, ⟨0, none, .lit (.int .u16 x0)⟩, ⟨1, none, .sl (x1.map (eNum .i64)) .no⟩], [.room (γ2), .blk [.lit (.bool r1.fNonRef), .lit (.bool (eqI s2.1 0)), .lit (.int .i64 r1.fPart), .lit (.int .i64 r1.fPicture), .lit (.bool r1.fWide), .lit (.int .i64 r1.fLevel), .lit (.int .i64 r1.fLayer), .lit (.bool r1.fSync), .lit (.int .i64 r1.fKey)]]⟩) (QRr (QRr (gLaw11Stream.fin x0 x1))) hr (fun f hr => ?_) (fun v3 γ3 hr => ?_) (fun _ h => QRr_ret h)
          · obtain ⟨h14, hr⟩ := need_some hr
            refine AWp.then ⟨[⟨39, none, .lit (.bool (eqI (remI s1.1 3) 0))⟩, ⟨10, none, .lit (.int .u8 1)⟩, ⟨9, none, .ptr 1 0⟩, ⟨8, none, .lit (.int .i64 s2.1)⟩, ⟨29, none, .lit (.int .i64 (addI .i64 1 (bitsOp .and .i64 (nthI x1 s1.1) 3)))⟩, ⟨30, none, .lit (.int .i64 s2.1)⟩, ⟨7, none, .lit (.int .i64 (addI .i64 1 (bitsOp .and .i64 (nthI x1 s1.1) 3)))⟩, ⟨6, none, .lit (.int .i64 s1.1)⟩, ⟨5, none, .sl (s2.2.map Antiphonref03Packet.enc) (.own 0 (γ2) 11)⟩, ⟨0, none, .lit (.int .u16 x0)⟩, ⟨1, none, .sl (x1.map (eNum .i64)) .no⟩], [.room (γ2), .blk [.lit (.bool r1.fNonRef), .lit (.bool (eqI s2.1 0)), .lit (.int .i64 r1.fPart), .lit (.int .i64 r1.fPicture), .lit (.bool r1.fWide), .lit (.int .i64 r1.fLevel), .lit (.int .i64 r1.fLayer), .lit (.bool r1.fSync), .lit (.int .i64 r1.fKey)]]⟩ (AWp.reg Try.tyOk hΓ (keep := [39]) (dead := []) (by kernel_rfl) rfl (by simp [h14])) ?_
            refine AWp.cond (b := (eqI (remI s1.1 3) 0)) (by simp) (fun h15 => ?_) (fun h15 => ?_)
            · have hr := cond_t h15 hr
              refine AWp.last ⟨[⟨10, none, .lit (.int .u8 0)⟩, ⟨9, none, .ptr 1 0⟩, ⟨8, none, .lit (.int .i64 s2.1)⟩, ⟨29, none, .lit (.int .i64 (addI .i64 1 (bitsOp .and .i64 (nthI x1 s1.1) 3)))⟩, ⟨30, none, .lit (.int .i64 s2.1)⟩, ⟨7, none, .lit (.int .i64 (addI .i64 1 (bitsOp .and .i64 (nthI x1 s1.1) 3)))⟩, ⟨6, none, .lit (.int .i64 s1.1)⟩, ⟨5, none, .sl (s2.2.map Antiphonref03Packet.enc) (.own 0 (γ2) 11)⟩, ⟨0, none, .lit (.int .u16 x0)⟩, ⟨1, none, .sl (x1.map (eNum .i64)) .no⟩], [.room (γ2), .blk [.lit (.bool r1.fNonRef), .lit (.bool (eqI s2.1 0)), .lit (.int .i64 r1.fPart), .lit (.int .i64 r1.fPicture), .lit (.bool r1.fWide), .lit (.int .i64 r1.fLevel), .lit (.int .i64 r1.fLayer), .lit (.bool r1.fSync), .lit (.int .i64 r1.fKey)]]⟩ (AWp.reg Try.tyOk hΓ (keep := [10]) (dead := [39]) (by kernel_rfl) rfl (by simp [h15])) ?_
              obtain rfl := some_inj hr
              exact meet_go () 2 (by first | (simp; done) | simp [h10, h11, h12, h13, h14, h15])
            · have hr := cond_f h15 hr
              refine AWp.skip ?_
              obtain rfl := some_inj hr
              exact meet_go () 2 (by first | (simp; done) | simp [h10, h11, h12, h13, h14, h15])
          · obtain ⟨r2, h16, hr⟩ := bind_some' hr
            obtain ⟨h17, hr⟩ := need_some hr
            obtain ⟨h18, hr⟩ := need_some hr
            refine AWp.last ⟨[⟨5, none, .sl ((appL s2.2 [(Antiphonref03Packet.mk (eqI s2.1 (subI .i64 (addI .i64 1 (bitsOp .and .i64 (nthI x1 s1.1) 3)) 1)) 96 (addI .u16 x0 (cvtI .u16 (lenL s2.2))) (cvtI .u32 (mulI .i64 3000 s1.1)) 7 [] false 0 ⟨#[]⟩ (catS r2 (strOfNums [v3, (cvtI .u8 s1.1), (cvtI .u8 s2.1)])) 0)]).map Antiphonref03Packet.enc) (.own 0 (γ2 + 1) 11)⟩, ⟨29, none, .lit (.int .i64 (addI .i64 1 (bitsOp .and .i64 (nthI x1 s1.1) 3)))⟩, ⟨30, none, .lit (.int .i64 s2.1)⟩, ⟨7, none, .lit (.int .i64 (addI .i64 1 (bitsOp .and .i64 (nthI x1 s1.1) 3)))⟩, ⟨6, none, .lit (.int .i64 s1.1)⟩, ⟨0, none, .lit (.int .u16 x0)⟩, ⟨1, none, .sl (x1.map (eNum .i64)) .no⟩], [.room (γ2 + 1), .blk [.lit (.bool r1.fNonRef), .lit (.bool (eqI s2.1 0)), .lit (.int .i64 r1.fPart), .lit (.int .i64 r1.fPicture), .lit (.bool r1.fWide), .lit (.int .i64 r1.fLevel), .lit (.int .i64 r1.fLayer), .lit (.bool r1.fSync), .lit (.int .i64 r1.fKey)]]⟩ (AWp.regD Try.mixed Try.tyOk hΓ (keep := [5]) (dead := [10, 9, 8]) [] [(false, []), (false, []), (false, []), (false, []), (false, []), (false, []), (false, []), (false, []), (false, []), (false, []), (false, []), (false, []), (false, []), (false, []), (false, []), (false, []), (false, []), (false, []), (false, []), (false, []), (false, []), (false, []), (false, []), (false, []), (false, []), (true, []), (false, [])] (by kernel_rfl) rfl (by simp [h16, h17, h18])) ?_
            refine AWp.last ⟨[⟨30, none, .lit (.int .i64 (addI .i64 s2.1 1))⟩, ⟨5, none, .sl ((appL s2.2 [(Antiphonref03Packet.mk (eqI s2.1 (subI .i64 (addI .i64 1 (bitsOp .and .i64 (nthI x1 s1.1) 3)) 1)) 96 (addI .u16 x0 (cvtI .u16 (lenL s2.2))) (cvtI .u32 (mulI .i64 3000 s1.1)) 7 [] false 0 ⟨#[]⟩ (catS r2 (strOfNums [v3, (cvtI .u8 s1.1), (cvtI .u8 s2.1)])) 0)]).map Antiphonref03Packet.enc) (.own 0 (γ2 + 1) 11)⟩, ⟨29, none, .lit (.int .i64 (addI .i64 1 (bitsOp .and .i64 (nthI x1 s1.1) 3)))⟩, ⟨7, none, .lit (.int .i64 (addI .i64 1 (bitsOp .and .i64 (nthI x1 s1.1) 3)))⟩, ⟨6, none, .lit (.int .i64 s1.1)⟩, ⟨0, none, .lit (.int .u16 x0)⟩, ⟨1, none, .sl (x1.map (eNum .i64)) .no⟩], [.room (γ2 + 1), .blk [.lit (.bool r1.fNonRef), .lit (.bool (eqI s2.1 0)), .lit (.int .i64 r1.fPart), .lit (.int .i64 r1.fPicture), .lit (.bool r1.fWide), .lit (.int .i64 r1.fLevel), .lit (.int .i64 r1.fLayer), .lit (.bool r1.fSync), .lit (.int .i64 r1.fKey)]]⟩ (AWp.reg Try.tyOk hΓ (keep := [30]) (dead := []) (by kernel_rfl) rfl (by simp)) ?_
            obtain rfl := some_inj hr
            exact round_go (γ2 + 1) 1 (by first | (simp; done) | simp [h10, h11, h12, h13, h16, h17, h18])
        · have hr := cond_f h12 hr
          refine AWp.exit ?_
          obtain rfl := some_inj hr
          exact round_out (γ2) 1 (by first | (simp; done) | simp [h10, h11, h12])
      · refine AWp.conv hc ?_
        refine AWp.last ⟨[⟨6, none, .lit (.int .i64 (addI .i64 s1.1 1))⟩, ⟨5, none, .sl (v2.map Antiphonref03Packet.enc) (.own 0 (γ2a) 11)⟩, ⟨0, none, .lit (.int .u16 x0)⟩, ⟨1, none, .sl (x1.map (eNum .i64)) .no⟩], [.room (γ2a)]⟩ (AWp.reg Try.tyOk hΓ (keep := [6]) (dead := []) (by kernel_rfl) rfl (by simp)) ?_
        obtain rfl := some_inj hr
        exact round_go (γ2a) 1 (by first | (simp; done) | simp [h10, h11])
    · have hr := cond_f h10 hr
      refine AWp.exit ?_
      obtain rfl := some_inj hr
      exact round_out (γ1) 1 (by first | (simp; done) | simp [h10])
  · refine AWp.conv hc ?_
    refine AWp.then ⟨[⟨4, none, .sl (v1.map Antiphonref03Packet.enc) (.own 0 (γ1a) 11)⟩], [.room (γ1a)]⟩ (AWp.reg Try.tyOk hΓ (keep := [4]) (dead := [5]) (by kernel_rfl) rfl (by simp)) ?_
    refine AWp.ret ?_
    obtain rfl := some_inj hr
    refine fin_ret ?_
    simp

@[simp] noncomputable def gLaw11Stream.S : Sp
  | [.lit (.int .u16 x0), .sl e1 _], _ => some { av := .sl (((gLaw11Stream x0 (e1.map decI)).getD dflt).map Antiphonref03Packet.enc) .no, M := none, obl := e1 = (e1.map decI).map (eNum .i64) ∧ (gLaw11Stream x0 (e1.map decI)).isSome = true }
  | _, _ => none

set_option maxHeartbeats 1000000 in
theorem gLaw11Stream.ok : SpecOk Try.prog 9 gLaw11Stream.S := by
  intro l M out h
  unfold gLaw11Stream.S at h
  split at h
  · rename_i x0 e1 k1
    cases h
    refine callOk_of fun ho => ?_
    obtain ⟨ox1, hs⟩ := ho
    generalize (e1.map decI) = x1 at *
    subst ox1
    obtain ⟨r, hr⟩ := Option.isSome_iff_exists.1 hs
    simp only [hr, Option.getD_some]
    have q := call_frame (M := M) [] (gLaw11Stream.can x0 x1 r hr) (by simp) rfl (by intro k i hk; simp at hk)
    exact callOk_conv q trivial (by simp) (by simp [frameOut, gLaw11Stream.out]) (by simp [frameOut, gLaw11Stream.out])
  · cases h

@[simp] def gLaw11Config.out (_x0 : Bool) (_x1 : Int) (_x2 : Int) (_x3 : Int) (r : IngressConfig) : Out := { av := .agg [.lit (.int .i64 r.fOrder.fMost), .lit (.int .i64 r.fOrder.fWait), .lit (.bool r.fFrame.fVideo), .lit (.int .i64 r.fFrame.fBytes), .lit (.int .i64 r.fFrame.fUnits), .lit (.int .i64 r.fFrame.fWait)], M := none }
set_option maxHeartbeats 4000000 in
set_option maxRecDepth 100000 in
theorem gLaw11Config.can (x0 : Bool) (x1 : Int) (x2 : Int) (x3 : Int) (r : IngressConfig) (hr : gLaw11Config x0 x1 x2 x3 = some r) : CallOk Try.prog 15 [.lit (.bool x0), .lit (.int .i64 x1), .lit (.int .i64 x2), .lit (.int .i64 x3)] [] (gLaw11Config.out x0 x1 x2 x3 r) := by
  unfold gLaw11Config at hr
  have hΓ := gamL_nil (P := Try.prog)
  refine call_of_awp Try.tyOk Try.func15 rfl (by kernel_rfl) rfl rfl (by simp) ?_
  intro _ _ _
  refine AWp.then ⟨[⟨8, none, .ptr 0 0⟩, ⟨0, none, .lit (.bool x0)⟩, ⟨1, none, .lit (.int .i64 x1)⟩, ⟨2, none, .lit (.int .i64 x2)⟩, ⟨3, none, .lit (.int .i64 x3)⟩], [.blk [.lit (.int .i64 0), .lit (.int .i64 0), .lit (.bool false), .lit (.int .i64 0), .lit (.int .i64 0), .lit (.int .i64 0)]]⟩ (AWp.reg Try.tyOk hΓ (keep := [8]) (dead := []) (by kernel_rfl) rfl (by simp)) ?_
  obtain ⟨h2, hr⟩ := need_some hr
  refine AWp.then ⟨[⟨8, none, .ptr 0 0⟩], [.blk [.lit (.int .i64 (addI .i64 1 (remI (bitsOp .and .i64 x1 255) 40))), .lit (.int .i64 (bitsOp .and .i64 x2 31)), .lit (.bool x0), .lit (.int .i64 400), .lit (.int .i64 (addI .i64 1 (bitsOp .and .i64 x3 7))), .lit (.int .i64 (bitsOp .and .i64 x2 31))]]⟩ (AWp.reg Try.tyOk hΓ (keep := []) (dead := [0, 1, 2, 3]) (by kernel_rfl) rfl (by simp [h2])) ?_
  refine AWp.ret ?_
  obtain rfl := some_inj hr
  refine fin_ret ?_
  simp

@[simp] noncomputable def gLaw11Config.S : Sp
  | [.lit (.bool x0), .lit (.int .i64 x1), .lit (.int .i64 x2), .lit (.int .i64 x3)], _ => (fun (r : IngressConfig) => some { av := .agg [.lit (.int .i64 (r.fOrder.fMost)), .lit (.int .i64 (r.fOrder.fWait)), .lit (.bool (r.fFrame.fVideo)), .lit (.int .i64 (r.fFrame.fBytes)), .lit (.int .i64 (r.fFrame.fUnits)), .lit (.int .i64 (r.fFrame.fWait))], M := none, obl := (gLaw11Config x0 x1 x2 x3).isSome = true }) ((gLaw11Config x0 x1 x2 x3).getD dflt)
  | _, _ => none

set_option maxHeartbeats 1000000 in
theorem gLaw11Config.ok : SpecOk Try.prog 15 gLaw11Config.S := by
  intro l M out h
  unfold gLaw11Config.S at h
  split at h
  · rename_i x0 x1 x2 x3
    try dsimp only at h
    cases h
    refine callOk_of fun ho => ?_
    have hs := ho
    obtain ⟨r, hr⟩ := Option.isSome_iff_exists.1 hs
    simp only [hr, Option.getD_some]
    have q := call_frame (M := M) [] (gLaw11Config.can x0 x1 x2 x3 r hr) (by simp) rfl (by intro k i hk; simp at hk)
    exact callOk_conv q trivial (by simp) (by simp [frameOut, gLaw11Config.out]) (by simp [frameOut, gLaw11Config.out])
  · cases h

@[simp] def gLaw11Begin.out (_x0 : IngressConfig) (r : Option IngressSource × Antiphonref11Source × Bool) : Out := { av := .tup [(optC r.1 (.lit (.pointer none)) fun _ => .ptr 9 0), .agg [.lit (.bool r.2.1.fSeq.fBegun), .lit (.int .i64 r.2.1.fSeq.fMost), .lit (.int .i64 r.2.1.fSeq.fAwait), .lit (.int .i64 r.2.1.fSeq.fRun), .lit (.int .i64 r.2.1.fSeq.fJumps), .lit (.int .i64 r.2.1.fClock), .lit (.int .i64 r.2.1.fOrder.fMost), .lit (.int .i64 r.2.1.fOrder.fWait), .lit (.bool r.2.1.fOrder.fBegun), .lit (.int .i64 r.2.1.fOrder.fNext), .sl (r.2.1.fOrder.fL.map Antiphonref09Thing.enc) .no, .lit (.int .i64 r.2.1.fOrder.fLost), .lit (.bool r.2.1.fMaker.fVideo), .lit (.int .i64 r.2.1.fMaker.fBytes), .lit (.int .i64 r.2.1.fMaker.fUnits), .lit (.int .i64 r.2.1.fMaker.fWait), .sl (r.2.1.fMaker.fOpen.map Antiphonref10Unit.enc) .no, .lit (.int .i64 r.2.1.fMaker.fWhole), .lit (.int .i64 r.2.1.fMaker.fLost), .sl (r.2.1.fL.map Antiphonref11Came.enc) .no, .lit (.int .i64 r.2.1.fBad), .lit (.int .i64 r.2.1.fKeys)], .lit (.bool r.2.2)], M := some (optC r.1 [] fun m0 => [.dead, .dead, .dead, .dead, .mapo (encM (kI .i64) (vA Antiphonref09Thing.enc) m0.fBuffer.fOf), .blk [.lit (.int .i64 m0.fBuffer.fConfig.fMost), .lit (.int .i64 m0.fBuffer.fConfig.fWait), .lit (.bool m0.fBuffer.fBegun), .lit (.int .i64 m0.fBuffer.fNext), .mp 4, .lit (.int .i64 m0.fBuffer.fLost)], .dead, .blk [.lit (.bool m0.fMaker.fConfig.fVideo), .lit (.int .i64 m0.fMaker.fConfig.fBytes), .lit (.int .i64 m0.fMaker.fConfig.fUnits), .lit (.int .i64 m0.fMaker.fConfig.fWait), .sl (m0.fMaker.fOpen.fUnits.map Antiphonref10Unit.enc) .no, .lit (.int .i64 m0.fMaker.fWhole), .lit (.int .i64 m0.fMaker.fLost)], .mapo (encM (kI .i64) (vA Antiphonref03Packet.enc) m0.fOf), .blk [.ptr 5 0, .ptr 7 0, .lit (.bool m0.fSeq.fBegun), .lit (.int .i64 m0.fSeq.fMost), .lit (.int .u16 m0.fSeq.fOdd), .lit (.int .i64 m0.fSeq.fRun), .lit (.int .i64 m0.fSeq.fJumps), .lit (.bool m0.fClock.fBegun), .lit (.int .i64 m0.fClock.fLast), .mp 8, .lit (.int .i64 m0.fBad), .lit (.int .i64 m0.fKeys)]]) }
set_option maxHeartbeats 4000000 in
set_option maxRecDepth 100000 in
theorem gLaw11Begin.can (x0 : IngressConfig) (r : Option IngressSource × Antiphonref11Source × Bool) (hr : gLaw11Begin x0 = some r) : CallOk Try.prog 8 [.agg [.lit (.int .i64 x0.fOrder.fMost), .lit (.int .i64 x0.fOrder.fWait), .lit (.bool x0.fFrame.fVideo), .lit (.int .i64 x0.fFrame.fBytes), .lit (.int .i64 x0.fFrame.fUnits), .lit (.int .i64 x0.fFrame.fWait)]] [] (gLaw11Begin.out x0 r) := by
  unfold gLaw11Begin at hr
  have hΓ := (gamL_cons gIngressNew.ok (gamL_nil) : GamOk Try.prog _)
  refine call_of_awp Try.tyOk Try.func8 rfl (by kernel_rfl) rfl rfl (by simp) ?_
  intro _ _ _
  refine AWp.then ⟨[⟨1, none, .ptr 0 0⟩, ⟨3, none, .ptr 1 0⟩], [.blk x0.enc, .blk [.lit (.bool false), .lit (.int .i64 0), .lit (.int .i64 0), .lit (.int .i64 0), .lit (.int .i64 0), .lit (.int .i64 0), .lit (.int .i64 0), .lit (.int .i64 0), .lit (.bool false), .lit (.int .i64 0), .sl [] .full, .lit (.int .i64 0), .lit (.bool false), .lit (.int .i64 0), .lit (.int .i64 0), .lit (.int .i64 0), .sl [] .full, .lit (.int .i64 0), .lit (.int .i64 0), .sl [] .full, .lit (.int .i64 0), .lit (.int .i64 0)]]⟩ (AWp.reg Try.tyOk hΓ (keep := [1, 3]) (dead := [0]) (by kernel_rfl) rfl (by simp)) ?_
  obtain ⟨r1, h3, hr⟩ := bind_some' hr
  cases h4 : r1.1 with
  | none =>
    have hr := optC_n h4 hr
    refine AWp.then ⟨[⟨5, none, .lit (.pointer none)⟩, ⟨6, none, .lit (.int .i64 r1.2)⟩, ⟨1, none, .ptr 0 0⟩, ⟨3, none, .ptr 1 0⟩], [.blk x0.enc, .blk [.lit (.bool false), .lit (.int .i64 0), .lit (.int .i64 0), .lit (.int .i64 0), .lit (.int .i64 0), .lit (.int .i64 0), .lit (.int .i64 0), .lit (.int .i64 0), .lit (.bool false), .lit (.int .i64 0), .sl [] .full, .lit (.int .i64 0), .lit (.bool false), .lit (.int .i64 0), .lit (.int .i64 0), .lit (.int .i64 0), .sl [] .full, .lit (.int .i64 0), .lit (.int .i64 0), .sl [] .full, .lit (.int .i64 0), .lit (.int .i64 0)]]⟩ (AWp.reg Try.tyOk hΓ (keep := [5, 6]) (dead := []) (by kernel_rfl) rfl (by simp [h3, h4])) ?_
    refine AWp.then ⟨[⟨7, none, .ptr 2 0⟩, ⟨5, none, .lit (.pointer none)⟩, ⟨6, none, .lit (.int .i64 r1.2)⟩, ⟨3, none, .ptr 1 0⟩], [.blk x0.enc, .blk [.lit (.bool false), .lit (.int .i64 0), .lit (.int .i64 0), .lit (.int .i64 0), .lit (.int .i64 0), .lit (.int .i64 0), .lit (.int .i64 0), .lit (.int .i64 0), .lit (.bool false), .lit (.int .i64 0), .sl [] .full, .lit (.int .i64 0), .lit (.bool false), .lit (.int .i64 0), .lit (.int .i64 0), .lit (.int .i64 0), .sl [] .full, .lit (.int .i64 0), .lit (.int .i64 0), .sl [] .full, .lit (.int .i64 0), .lit (.int .i64 0)], .blk [.lit (.bool false), .lit (.int .i64 0), .lit (.int .i64 (-1)), .lit (.int .i64 0), .lit (.int .i64 0), .lit (.int .i64 (-1)), .lit (.int .i64 x0.fOrder.fMost), .lit (.int .i64 x0.fOrder.fWait), .lit (.bool false), .lit (.int .i64 0), .sl [] .no, .lit (.int .i64 0), .lit (.bool x0.fFrame.fVideo), .lit (.int .i64 x0.fFrame.fBytes), .lit (.int .i64 x0.fFrame.fUnits), .lit (.int .i64 x0.fFrame.fWait), .sl [] .no, .lit (.int .i64 0), .lit (.int .i64 0), .sl [] .no, .lit (.int .i64 0), .lit (.int .i64 0)]]⟩ (AWp.reg Try.tyOk hΓ (keep := [7]) (dead := [1]) (by kernel_rfl) rfl (by simp)) ?_
    refine AWp.then ⟨[⟨2, none, .lit (.pointer none)⟩, ⟨4, none, .lit (.bool (pickB (eqI r1.2 0) false false))⟩, ⟨3, none, .ptr 1 0⟩], [.blk x0.enc, .blk [.lit (.bool false), .lit (.int .i64 0), .lit (.int .i64 (-1)), .lit (.int .i64 0), .lit (.int .i64 0), .lit (.int .i64 (-1)), .lit (.int .i64 x0.fOrder.fMost), .lit (.int .i64 x0.fOrder.fWait), .lit (.bool false), .lit (.int .i64 0), .sl [] .no, .lit (.int .i64 0), .lit (.bool x0.fFrame.fVideo), .lit (.int .i64 x0.fFrame.fBytes), .lit (.int .i64 x0.fFrame.fUnits), .lit (.int .i64 x0.fFrame.fWait), .sl [] .no, .lit (.int .i64 0), .lit (.int .i64 0), .sl [] .no, .lit (.int .i64 0), .lit (.int .i64 0)], .blk [.lit (.bool false), .lit (.int .i64 0), .lit (.int .i64 (-1)), .lit (.int .i64 0), .lit (.int .i64 0), .lit (.int .i64 (-1)), .lit (.int .i64 x0.fOrder.fMost), .lit (.int .i64 x0.fOrder.fWait), .lit (.bool false), .lit (.int .i64 0), .sl [] .no, .lit (.int .i64 0), .lit (.bool x0.fFrame.fVideo), .lit (.int .i64 x0.fFrame.fBytes), .lit (.int .i64 x0.fFrame.fUnits), .lit (.int .i64 x0.fFrame.fWait), .sl [] .no, .lit (.int .i64 0), .lit (.int .i64 0), .sl [] .no, .lit (.int .i64 0), .lit (.int .i64 0)]]⟩ (AWp.regD Try.mixed Try.tyOk hΓ (keep := [2, 4]) (dead := [7, 5, 6]) [(5, 10), (6, 10), (7, 10)] [(false, []), (false, []), (false, []), (false, []), (false, []), (false, [39]), (false, [39]), (false, []), (false, []), (true, []), (false, [])] (by kernel_rfl) rfl (by simp)) ?_
    refine AWp.ret ?_
    obtain rfl := some_inj hr
    refine fin_ret ?_
    simp
  | some o1 =>
    have hr := optC_s h4 hr
    refine AWp.then ⟨[⟨5, none, .ptr 9 0⟩, ⟨6, none, .lit (.int .i64 r1.2)⟩, ⟨1, none, .ptr 0 0⟩, ⟨3, none, .ptr 1 0⟩], [.blk x0.enc, .blk [.lit (.bool false), .lit (.int .i64 0), .lit (.int .i64 0), .lit (.int .i64 0), .lit (.int .i64 0), .lit (.int .i64 0), .lit (.int .i64 0), .lit (.int .i64 0), .lit (.bool false), .lit (.int .i64 0), .sl [] .full, .lit (.int .i64 0), .lit (.bool false), .lit (.int .i64 0), .lit (.int .i64 0), .lit (.int .i64 0), .sl [] .full, .lit (.int .i64 0), .lit (.int .i64 0), .sl [] .full, .lit (.int .i64 0), .lit (.int .i64 0)], .dead, .dead, .mapo (encM (kI .i64) (vA Antiphonref09Thing.enc) o1.fBuffer.fOf), .blk (o1.fBuffer.fConfig.enc ++ [.lit (.bool o1.fBuffer.fBegun), .lit (.int .i64 o1.fBuffer.fNext), .mp 4, .lit (.int .i64 o1.fBuffer.fLost)]), .dead, .blk o1.fMaker.enc, .mapo (encM (kI .i64) (vA Antiphonref03Packet.enc) o1.fOf), .blk ([.ptr 5 0, .ptr 7 0] ++ o1.fSeq.enc ++ o1.fClock.enc ++ [.mp 8, .lit (.int .i64 o1.fBad), .lit (.int .i64 o1.fKeys)])]⟩ (AWp.reg Try.tyOk hΓ (keep := [5, 6]) (dead := []) (by kernel_rfl) rfl (by simp [h3, h4])) ?_
    refine AWp.then ⟨[⟨7, none, .ptr 10 0⟩, ⟨5, none, .ptr 9 0⟩, ⟨6, none, .lit (.int .i64 r1.2)⟩, ⟨3, none, .ptr 1 0⟩], [.blk x0.enc, .blk [.lit (.bool false), .lit (.int .i64 0), .lit (.int .i64 0), .lit (.int .i64 0), .lit (.int .i64 0), .lit (.int .i64 0), .lit (.int .i64 0), .lit (.int .i64 0), .lit (.bool false), .lit (.int .i64 0), .sl [] .full, .lit (.int .i64 0), .lit (.bool false), .lit (.int .i64 0), .lit (.int .i64 0), .lit (.int .i64 0), .sl [] .full, .lit (.int .i64 0), .lit (.int .i64 0), .sl [] .full, .lit (.int .i64 0), .lit (.int .i64 0)], .dead, .dead, .mapo (encM (kI .i64) (vA Antiphonref09Thing.enc) o1.fBuffer.fOf), .blk (o1.fBuffer.fConfig.enc ++ [.lit (.bool o1.fBuffer.fBegun), .lit (.int .i64 o1.fBuffer.fNext), .mp 4, .lit (.int .i64 o1.fBuffer.fLost)]), .dead, .blk o1.fMaker.enc, .mapo (encM (kI .i64) (vA Antiphonref03Packet.enc) o1.fOf), .blk ([.ptr 5 0, .ptr 7 0] ++ o1.fSeq.enc ++ o1.fClock.enc ++ [.mp 8, .lit (.int .i64 o1.fBad), .lit (.int .i64 o1.fKeys)]), .blk [.lit (.bool false), .lit (.int .i64 0), .lit (.int .i64 (-1)), .lit (.int .i64 0), .lit (.int .i64 0), .lit (.int .i64 (-1)), .lit (.int .i64 x0.fOrder.fMost), .lit (.int .i64 x0.fOrder.fWait), .lit (.bool false), .lit (.int .i64 0), .sl [] .no, .lit (.int .i64 0), .lit (.bool x0.fFrame.fVideo), .lit (.int .i64 x0.fFrame.fBytes), .lit (.int .i64 x0.fFrame.fUnits), .lit (.int .i64 x0.fFrame.fWait), .sl [] .no, .lit (.int .i64 0), .lit (.int .i64 0), .sl [] .no, .lit (.int .i64 0), .lit (.int .i64 0)]]⟩ (AWp.reg Try.tyOk hΓ (keep := [7]) (dead := [1]) (by kernel_rfl) rfl (by simp)) ?_
    refine AWp.then ⟨[⟨2, none, .ptr 9 0⟩, ⟨4, none, .lit (.bool (pickB (eqI r1.2 0) true false))⟩, ⟨3, none, .ptr 1 0⟩], [.blk x0.enc, .blk [.lit (.bool false), .lit (.int .i64 0), .lit (.int .i64 (-1)), .lit (.int .i64 0), .lit (.int .i64 0), .lit (.int .i64 (-1)), .lit (.int .i64 x0.fOrder.fMost), .lit (.int .i64 x0.fOrder.fWait), .lit (.bool false), .lit (.int .i64 0), .sl [] .no, .lit (.int .i64 0), .lit (.bool x0.fFrame.fVideo), .lit (.int .i64 x0.fFrame.fBytes), .lit (.int .i64 x0.fFrame.fUnits), .lit (.int .i64 x0.fFrame.fWait), .sl [] .no, .lit (.int .i64 0), .lit (.int .i64 0), .sl [] .no, .lit (.int .i64 0), .lit (.int .i64 0)], .dead, .dead, .mapo (encM (kI .i64) (vA Antiphonref09Thing.enc) o1.fBuffer.fOf), .blk (o1.fBuffer.fConfig.enc ++ [.lit (.bool o1.fBuffer.fBegun), .lit (.int .i64 o1.fBuffer.fNext), .mp 4, .lit (.int .i64 o1.fBuffer.fLost)]), .dead, .blk o1.fMaker.enc, .mapo (encM (kI .i64) (vA Antiphonref03Packet.enc) o1.fOf), .blk ([.ptr 5 0, .ptr 7 0] ++ o1.fSeq.enc ++ o1.fClock.enc ++ [.mp 8, .lit (.int .i64 o1.fBad), .lit (.int .i64 o1.fKeys)]), .blk [.lit (.bool false), .lit (.int .i64 0), .lit (.int .i64 (-1)), .lit (.int .i64 0), .lit (.int .i64 0), .lit (.int .i64 (-1)), .lit (.int .i64 x0.fOrder.fMost), .lit (.int .i64 x0.fOrder.fWait), .lit (.bool false), .lit (.int .i64 0), .sl [] .no, .lit (.int .i64 0), .lit (.bool x0.fFrame.fVideo), .lit (.int .i64 x0.fFrame.fBytes), .lit (.int .i64 x0.fFrame.fUnits), .lit (.int .i64 x0.fFrame.fWait), .sl [] .no, .lit (.int .i64 0), .lit (.int .i64 0), .sl [] .no, .lit (.int .i64 0), .lit (.int .i64 0)]]⟩ (AWp.regD Try.mixed Try.tyOk hΓ (keep := [2, 4]) (dead := [7, 5, 6]) [(5, 10), (6, 10), (7, 10)] [(false, []), (false, []), (false, []), (false, []), (false, []), (false, [39]), (false, [39]), (false, []), (false, []), (true, []), (false, [])] (by kernel_rfl) rfl (by simp)) ?_
    refine AWp.ret ?_
    obtain rfl := some_inj hr
    refine fin_ret ?_
    simp

@[simp] noncomputable def gLaw11Begin.S : Sp
  | [.agg e0], M => (fun (r : Option IngressSource × Antiphonref11Source × Bool) => some { av := .tup [(optC (r.1) (.lit (.pointer none)) fun _ => .ptr (M.length + 9) 0), .agg [.lit (.bool (r.2.1.fSeq.fBegun)), .lit (.int .i64 (r.2.1.fSeq.fMost)), .lit (.int .i64 (r.2.1.fSeq.fAwait)), .lit (.int .i64 (r.2.1.fSeq.fRun)), .lit (.int .i64 (r.2.1.fSeq.fJumps)), .lit (.int .i64 (r.2.1.fClock)), .lit (.int .i64 (r.2.1.fOrder.fMost)), .lit (.int .i64 (r.2.1.fOrder.fWait)), .lit (.bool (r.2.1.fOrder.fBegun)), .lit (.int .i64 (r.2.1.fOrder.fNext)), .sl ((r.2.1.fOrder.fL).map Antiphonref09Thing.enc) .no, .lit (.int .i64 (r.2.1.fOrder.fLost)), .lit (.bool (r.2.1.fMaker.fVideo)), .lit (.int .i64 (r.2.1.fMaker.fBytes)), .lit (.int .i64 (r.2.1.fMaker.fUnits)), .lit (.int .i64 (r.2.1.fMaker.fWait)), .sl ((r.2.1.fMaker.fOpen).map Antiphonref10Unit.enc) .no, .lit (.int .i64 (r.2.1.fMaker.fWhole)), .lit (.int .i64 (r.2.1.fMaker.fLost)), .sl ((r.2.1.fL).map Antiphonref11Came.enc) .no, .lit (.int .i64 (r.2.1.fBad)), .lit (.int .i64 (r.2.1.fKeys))], .lit (.bool (r.2.2))], M := some (optC (r.1) M fun m0 => M ++ [.dead, .dead, .dead, .dead, .mapo (encM (kI .i64) (vA Antiphonref09Thing.enc) m0.fBuffer.fOf), .blk [.lit (.int .i64 m0.fBuffer.fConfig.fMost), .lit (.int .i64 m0.fBuffer.fConfig.fWait), .lit (.bool m0.fBuffer.fBegun), .lit (.int .i64 m0.fBuffer.fNext), .mp (M.length + 4), .lit (.int .i64 m0.fBuffer.fLost)], .dead, .blk [.lit (.bool m0.fMaker.fConfig.fVideo), .lit (.int .i64 m0.fMaker.fConfig.fBytes), .lit (.int .i64 m0.fMaker.fConfig.fUnits), .lit (.int .i64 m0.fMaker.fConfig.fWait), .sl (m0.fMaker.fOpen.fUnits.map Antiphonref10Unit.enc) .no, .lit (.int .i64 m0.fMaker.fWhole), .lit (.int .i64 m0.fMaker.fLost)], .mapo (encM (kI .i64) (vA Antiphonref03Packet.enc) m0.fOf), .blk [.ptr (M.length + 5) 0, .ptr (M.length + 7) 0, .lit (.bool m0.fSeq.fBegun), .lit (.int .i64 m0.fSeq.fMost), .lit (.int .u16 m0.fSeq.fOdd), .lit (.int .i64 m0.fSeq.fRun), .lit (.int .i64 m0.fSeq.fJumps), .lit (.bool m0.fClock.fBegun), .lit (.int .i64 m0.fClock.fLast), .mp (M.length + 8), .lit (.int .i64 m0.fBad), .lit (.int .i64 m0.fKeys)]]), obl := WeakL e0 (IngressConfig.enc (IngressConfig.dec e0)) ∧ (gLaw11Begin (IngressConfig.dec e0)).isSome = true }) ((gLaw11Begin (IngressConfig.dec e0)).getD dflt)
  | _, _ => none

set_option maxHeartbeats 1000000 in
theorem gLaw11Begin.ok : SpecOk Try.prog 8 gLaw11Begin.S := by
  intro l M out h
  unfold gLaw11Begin.S at h
  split at h
  · rename_i e0
    try dsimp only at h
    cases h
    refine callOk_of fun ho => ?_
    obtain ⟨ox0, hs⟩ := ho
    generalize (IngressConfig.dec e0) = x0 at *
    obtain ⟨r, hr⟩ := Option.isSome_iff_exists.1 hs
    simp only [hr, Option.getD_some]
    have q := call_frame (M := M) [] (gLaw11Begin.can x0 r hr) (by simp) rfl (by intro k i hk; simp at hk)
    cases hc : r.1 with
    | none => exact callOk_conv q trivial (by simp; exact ox0) (by simp [hc, frameOut, gLaw11Begin.out]) (by simp [hc, frameOut, gLaw11Begin.out])
    | some m0 => exact callOk_conv q trivial (by simp; exact ox0) (by simp [hc, frameOut, gLaw11Begin.out, into]) (by simp [hc, frameOut, gLaw11Begin.out, into])
  · cases h

@[simp] def gLaw11Awake.out  (r : Bool) : Out := { av := .lit (.bool r), M := none }
set_option maxHeartbeats 4000000 in
set_option maxRecDepth 100000 in
theorem gLaw11Awake.can  (r : Bool) (hr : gLaw11Awake = some r) : CallOk Try.prog 7 [] [] (gLaw11Awake.out  r) := by
  unfold gLaw11Awake at hr
  have hΓ := (gamL_cons gIngressSourceBad.ok (gamL_cons gIngressSourcePut.ok (gamL_cons gFrameFrameKey.ok (gamL_cons gLaw11Config.ok (gamL_cons gLaw11Stream.ok (gamL_cons gIngressNew.ok (gamL_nil)))))) : GamOk Try.prog _)
  refine call_of_awp Try.tyOk Try.func7 rfl (by kernel_rfl) rfl rfl (by simp) ?_
  intro _ _ _
  refine AWp.then ⟨[], []⟩ (AWp.reg Try.tyOk hΓ (keep := []) (dead := []) (by kernel_rfl) rfl (by simp)) ?_
  obtain ⟨r1, h17, hr⟩ := bind_some' hr
  obtain ⟨r2, h18, hr⟩ := bind_some' hr
  cases h19 : r2.1 with
  | none =>
    have hr := optC_n h19 hr
    refine AWp.then ⟨[⟨1, none, .lit (.pointer none)⟩, ⟨2, none, .lit (.int .i64 r2.2)⟩], []⟩ (AWp.reg Try.tyOk hΓ (keep := [1, 2]) (dead := []) (by kernel_rfl) rfl (by simp [h17, h18, h19])) ?_
    refine AWp.seq ?_
    cases h20 : (pickB (neI r2.2 0) true true) with
    | true =>
      have hr := cond_t h20 hr
      refine AWp.then ⟨[⟨27, none, .lit (.bool true)⟩, ⟨1, none, .lit (.pointer none)⟩], []⟩ (AWp.regG Try.tyOk hΓ [(21, true)] (keep := [27]) (dead := [2]) (by kernel_rfl) rfl (by simp [h20])) ?_
      refine AWp.cond (b := true) (by simp) (fun hb => ?_) (fun hb => ?_)
      · refine AWp.then ⟨[⟨0, none, .lit (.bool false)⟩], []⟩ (AWp.reg Try.tyOk hΓ (keep := [0]) (dead := [27, 1]) (by kernel_rfl) rfl (by simp)) ?_
        refine AWp.ret ?_
        obtain rfl := some_inj hr
        refine fin_ret ?_
        simp
      · cases hb
    | false =>
      have hr := cond_f h20 hr
      cases hr
  | some o1 =>
    have hr := optC_s h19 hr
    refine AWp.then ⟨[⟨1, none, .ptr 7 0⟩, ⟨2, none, .lit (.int .i64 r2.2)⟩], [.dead, .dead, .mapo (encM (kI .i64) (vA Antiphonref09Thing.enc) o1.fBuffer.fOf), .blk (o1.fBuffer.fConfig.enc ++ [.lit (.bool o1.fBuffer.fBegun), .lit (.int .i64 o1.fBuffer.fNext), .mp 2, .lit (.int .i64 o1.fBuffer.fLost)]), .dead, .blk o1.fMaker.enc, .mapo (encM (kI .i64) (vA Antiphonref03Packet.enc) o1.fOf), .blk ([.ptr 3 0, .ptr 5 0] ++ o1.fSeq.enc ++ o1.fClock.enc ++ [.mp 6, .lit (.int .i64 o1.fBad), .lit (.int .i64 o1.fKeys)])]⟩ (AWp.reg Try.tyOk hΓ (keep := [1, 2]) (dead := []) (by kernel_rfl) rfl (by simp [h17, h18, h19])) ?_
    refine AWp.seq ?_
    refine AWp.then ⟨[⟨27, none, .lit (.bool (pickB (pickB (neI r2.2 0) true false) true false))⟩, ⟨1, none, .ptr 7 0⟩], [.dead, .dead, .mapo (encM (kI .i64) (vA Antiphonref09Thing.enc) o1.fBuffer.fOf), .blk (o1.fBuffer.fConfig.enc ++ [.lit (.bool o1.fBuffer.fBegun), .lit (.int .i64 o1.fBuffer.fNext), .mp 2, .lit (.int .i64 o1.fBuffer.fLost)]), .dead, .blk o1.fMaker.enc, .mapo (encM (kI .i64) (vA Antiphonref03Packet.enc) o1.fOf), .blk ([.ptr 3 0, .ptr 5 0] ++ o1.fSeq.enc ++ o1.fClock.enc ++ [.mp 6, .lit (.int .i64 o1.fBad), .lit (.int .i64 o1.fKeys)])]⟩ (AWp.reg Try.tyOk hΓ (keep := [27]) (dead := [2]) (by kernel_rfl) rfl (by simp)) ?_
    refine AWp.cond (b := (pickB (pickB (neI r2.2 0) true false) true false)) (by simp) (fun h21 => ?_) (fun h21 => ?_)
    · have hr := cond_t h21 hr
      refine AWp.then ⟨[⟨0, none, .lit (.bool false)⟩], [.dead, .dead, .mapo (encM (kI .i64) (vA Antiphonref09Thing.enc) o1.fBuffer.fOf), .blk (o1.fBuffer.fConfig.enc ++ [.lit (.bool o1.fBuffer.fBegun), .lit (.int .i64 o1.fBuffer.fNext), .mp 2, .lit (.int .i64 o1.fBuffer.fLost)]), .dead, .blk o1.fMaker.enc, .mapo (encM (kI .i64) (vA Antiphonref03Packet.enc) o1.fOf), .blk ([.ptr 3 0, .ptr 5 0] ++ o1.fSeq.enc ++ o1.fClock.enc ++ [.mp 6, .lit (.int .i64 o1.fBad), .lit (.int .i64 o1.fKeys)])]⟩ (AWp.reg Try.tyOk hΓ (keep := [0]) (dead := [27, 1]) (by kernel_rfl) rfl (by simp)) ?_
      refine AWp.ret ?_
      obtain rfl := some_inj hr
      refine fin_ret ?_
      simp
    · have hr := cond_f h21 hr
      refine AWp.skip ?_
      obtain ⟨r3, h22, hr⟩ := bind_some' hr
      refine AWp.then ⟨[⟨3, none, .sl (r3.map Antiphonref03Packet.enc) .no⟩, ⟨1, none, .ptr 7 0⟩], [.dead, .dead, .mapo (encM (kI .i64) (vA Antiphonref09Thing.enc) o1.fBuffer.fOf), .blk (o1.fBuffer.fConfig.enc ++ [.lit (.bool o1.fBuffer.fBegun), .lit (.int .i64 o1.fBuffer.fNext), .mp 2, .lit (.int .i64 o1.fBuffer.fLost)]), .dead, .blk o1.fMaker.enc, .mapo (encM (kI .i64) (vA Antiphonref03Packet.enc) o1.fOf), .blk ([.ptr 3 0, .ptr 5 0] ++ o1.fSeq.enc ++ o1.fClock.enc ++ [.mp 6, .lit (.int .i64 o1.fBad), .lit (.int .i64 o1.fKeys)])]⟩ (AWp.reg Try.tyOk hΓ (keep := [3]) (dead := [27]) (by kernel_rfl) rfl (by simp [h22])) ?_
      obtain ⟨h23, hr⟩ := need_some hr
      obtain ⟨r4, h24, hr⟩ := bind_some' hr
      refine AWp.then ⟨[⟨4, none, .sl (r4.1.map FrameFrame.enc) .no⟩, ⟨5, none, .lit (.int .i64 r4.2.1)⟩, ⟨3, none, .sl (r3.map Antiphonref03Packet.enc) .no⟩, ⟨1, none, .ptr 7 0⟩], [.dead, .dead, .mapo (encM (kI .i64) (vA Antiphonref09Thing.enc) r4.2.2.fBuffer.fOf), .blk (r4.2.2.fBuffer.fConfig.enc ++ [.lit (.bool r4.2.2.fBuffer.fBegun), .lit (.int .i64 r4.2.2.fBuffer.fNext), .mp 2, .lit (.int .i64 r4.2.2.fBuffer.fLost)]), .dead, .blk r4.2.2.fMaker.enc, .mapo (encM (kI .i64) (vA Antiphonref03Packet.enc) r4.2.2.fOf), .blk ([.ptr 3 0, .ptr 5 0] ++ r4.2.2.fSeq.enc ++ r4.2.2.fClock.enc ++ [.mp 6, .lit (.int .i64 r4.2.2.fBad), .lit (.int .i64 r4.2.2.fKeys)])]⟩ (AWp.reg Try.tyOk hΓ (keep := [4, 5]) (dead := []) (by kernel_rfl) rfl (by simp [h23, h24])) ?_
      obtain ⟨h25, hr⟩ := need_some hr
      obtain ⟨r5, h26, hr⟩ := bind_some' hr
      refine AWp.then ⟨[⟨6, none, .sl (r5.1.map FrameFrame.enc) .no⟩, ⟨7, none, .lit (.int .i64 r5.2.1)⟩, ⟨4, none, .sl (r4.1.map FrameFrame.enc) .no⟩, ⟨5, none, .lit (.int .i64 r4.2.1)⟩, ⟨3, none, .sl (r3.map Antiphonref03Packet.enc) .no⟩, ⟨1, none, .ptr 7 0⟩], [.dead, .dead, .mapo (encM (kI .i64) (vA Antiphonref09Thing.enc) r5.2.2.fBuffer.fOf), .blk (r5.2.2.fBuffer.fConfig.enc ++ [.lit (.bool r5.2.2.fBuffer.fBegun), .lit (.int .i64 r5.2.2.fBuffer.fNext), .mp 2, .lit (.int .i64 r5.2.2.fBuffer.fLost)]), .dead, .blk r5.2.2.fMaker.enc, .mapo (encM (kI .i64) (vA Antiphonref03Packet.enc) r5.2.2.fOf), .blk ([.ptr 3 0, .ptr 5 0] ++ r5.2.2.fSeq.enc ++ r5.2.2.fClock.enc ++ [.mp 6, .lit (.int .i64 r5.2.2.fBad), .lit (.int .i64 r5.2.2.fKeys)])]⟩ (AWp.reg Try.tyOk hΓ (keep := [6, 7]) (dead := []) (by kernel_rfl) rfl (by simp [h25, h26])) ?_
      obtain ⟨h27, hr⟩ := need_some hr
      obtain ⟨r6, h28, hr⟩ := bind_some' hr
      refine AWp.then ⟨[⟨9, none, .lit (.int .i64 r6.2.1)⟩, ⟨6, none, .sl (r5.1.map FrameFrame.enc) .no⟩, ⟨7, none, .lit (.int .i64 r5.2.1)⟩, ⟨4, none, .sl (r4.1.map FrameFrame.enc) .no⟩, ⟨5, none, .lit (.int .i64 r4.2.1)⟩, ⟨1, none, .ptr 7 0⟩], [.dead, .dead, .mapo (encM (kI .i64) (vA Antiphonref09Thing.enc) r6.2.2.fBuffer.fOf), .blk (r6.2.2.fBuffer.fConfig.enc ++ [.lit (.bool r6.2.2.fBuffer.fBegun), .lit (.int .i64 r6.2.2.fBuffer.fNext), .mp 2, .lit (.int .i64 r6.2.2.fBuffer.fLost)]), .dead, .blk r6.2.2.fMaker.enc, .mapo (encM (kI .i64) (vA Antiphonref03Packet.enc) r6.2.2.fOf), .blk ([.ptr 3 0, .ptr 5 0] ++ r6.2.2.fSeq.enc ++ r6.2.2.fClock.enc ++ [.mp 6, .lit (.int .i64 r6.2.2.fBad), .lit (.int .i64 r6.2.2.fKeys)])]⟩ (AWp.reg Try.tyOk hΓ (keep := [9]) (dead := [3]) (by kernel_rfl) rfl (by simp [h23, h28])) ?_
      obtain ⟨h29, hr⟩ := need_some hr
      obtain ⟨h30, hr⟩ := need_some hr
      obtain ⟨h31, hr⟩ := need_some hr
      obtain ⟨h32, hr⟩ := need_some hr
      refine AWp.then ⟨[⟨0, none, .lit (.bool (pickB (pickB (pickB (pickB (pickB (pickB (pickB (eqI (lenL r4.1) 0) (eqI r4.2.1 0) false) (eqI r5.2.1 0) false) (eqI (lenL r5.1) 1) false) ((gFrameFrameKey (nthI r5.1 0)).getD dflt) false) (eqI (lenL ((nthI r5.1 0).fUnits)) 2) false) (eqI r6.2.1 13) false) (eqI ((gIngressSourceBad r6.2.2).getD dflt) 1) false))⟩], [.dead, .dead, .mapo (encM (kI .i64) (vA Antiphonref09Thing.enc) r6.2.2.fBuffer.fOf), .blk (r6.2.2.fBuffer.fConfig.enc ++ [.lit (.bool r6.2.2.fBuffer.fBegun), .lit (.int .i64 r6.2.2.fBuffer.fNext), .mp 2, .lit (.int .i64 r6.2.2.fBuffer.fLost)]), .dead, .blk r6.2.2.fMaker.enc, .mapo (encM (kI .i64) (vA Antiphonref03Packet.enc) r6.2.2.fOf), .blk ([.ptr 3 0, .ptr 5 0] ++ r6.2.2.fSeq.enc ++ r6.2.2.fClock.enc ++ [.mp 6, .lit (.int .i64 r6.2.2.fBad), .lit (.int .i64 r6.2.2.fKeys)])]⟩ (AWp.reg Try.tyOk hΓ (keep := [0]) (dead := [9, 6, 7, 4, 5, 1]) (by kernel_rfl) rfl (by simp [h29, h30, h31, h32])) ?_
      refine AWp.ret ?_
      obtain rfl := some_inj hr
      refine fin_ret ?_
      simp

@[simp] noncomputable def gLaw11Awake.S : Sp
  | [], _ => some { av := .lit (.bool (gLaw11Awake.getD dflt)), M := none, obl := gLaw11Awake.isSome = true }
  | _, _ => none

set_option maxHeartbeats 1000000 in
theorem gLaw11Awake.ok : SpecOk Try.prog 7 gLaw11Awake.S := by
  intro l M out h
  unfold gLaw11Awake.S at h
  split at h
  · cases h
    refine callOk_of fun ho => ?_
    have hs := ho
    obtain ⟨r, hr⟩ := Option.isSome_iff_exists.1 hs
    simp only [hr, Option.getD_some]
    have q := call_frame (M := M) [] (gLaw11Awake.can r hr) (by simp) rfl (by intro k i hk; simp at hk)
    exact callOk_conv q trivial (by simp) (by simp [frameOut, gLaw11Awake.out]) (by simp [frameOut, gLaw11Awake.out])
  · cases h
end Go.Proofs

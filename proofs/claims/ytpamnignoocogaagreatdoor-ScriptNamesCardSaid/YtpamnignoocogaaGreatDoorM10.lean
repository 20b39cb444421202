import Derived.Test.YtpamnignoocogaaGreatDoorM08
import Derived.Test.YtpamnignoocogaaGreatDoorTy
import Derived.Test.YtpamnignoocogaaGreatDoorM15
import Derived.Test.YtpamnignoocogaaGreatDoorM18
import Derived.Test.YtpamnignoocogaaGreatDoorM20
import Derived.Test.YtpamnignoocogaaGreatDoorM13
import Derived.Test.YtpamnignoocogaaGreatDoorM07
import Derived.Test.YtpamnignoocogaaGreatDoorM02
import Derived.Test.YtpamnignoocogaaGreatDoorM17
import Derived.Shelf.Strings.CaseAny
section
namespace Go.Proofs
open Go.Ab
@[simp] def gy.out (_x0 : ByteArray) (r : List Tc × Int × Int) : Out := { av := .tup [.sl (r.1.map Tc.enc) (tokN (neI r.2.2 0)), .lit (.int .i64 r.2.1), .lit (.int .i64 r.2.2)], M := none }
def gy.fin (x0 : ByteArray) (r : List Tc × Int × Int) (σ : St) : Prop := finK (gy.out x0 r) [] σ.M (resA Tryz.tyN σ.A σ.M Tryz.f7.results.toList)
set_option maxHeartbeats 4000000 in
set_option maxRecDepth 100000 in
theorem gy.can (x0 : ByteArray) (r : List Tc × Int × Int) (hr : gy x0 = some r) : CallOk Tryz.prog 7 [.lit (.string x0)] [] (gy.out x0 r) := by
 unfold gy at hr;have hΓ := (gamL_cons ga.ok (gamL_cons gaD.ok (gamL_nil)) : GamOk Tryz.prog _);refine cwN Tryz.func7 rfl (by kernel_rfl) rfl rfl (by simp) fun _ _ _ => ?_;refine tqN hΓ [] [] ?_;obtain ⟨h11, hr⟩ := Lb hr;refine tqN hΓ [5] [0] ?_ (by simp [h11]; exact rr);refine AWp.meetF (fun (v1 : List ByteArray) (γ1 : Unit) => ⟨[⟨5, none, .sl (v1.map eTxt) .no⟩], []⟩) (gy.fin x0) hr (fun f hr => ?_) (fun v1 γ1 hr => ?_) (fun _ h => h)
 ·obtain ⟨h12, hr⟩ := Lb hr;refine tqN hΓ [19] [] ?_ (by simp [h12]; exact rr);refine AWp.cnd hr (by simp) (fun h13 hr => ?_) (fun h13 hr => ?_)
  ·obtain ⟨h14, hr⟩ := Lb hr;refine tlN hΓ [5] [19] ?_ (by simp [h13, h14]; exact rr);obtain rfl := La hr;exact meet_go () 0 (by first | (simp; done) | simp [h11, h12, h13, h14])
  ·refine AWp.skip ?_;obtain rfl := La hr;exact meet_go () 0 (by first | (simp; done) | simp [h11, h12, h13])
 ·refine AWp.seq ?_;refine tqN hΓ [27] [] ?_ (by simp; exact rr);refine AWp.cnd hr (by simp) (fun h15 hr => ?_) (fun h15 hr => ?_)
  ·refine tqN hΓ [2, 3, 4] [27, 5] ?_ (by simp [h15]; exact rr);obtain rfl := La hr;exact AWp.ret (Le (by simp [*]))
  ·refine AWp.skip ?_;refine tqN hΓ [6] [27] ?_ (by simp [h15]; exact rr);refine AWp.seq ?_;refine tqN hΓ [30, 31, 32] [5] ?_ (by simp; exact rr);refine AWp.equip 6 4 (els := []) (by simp) (by simp) ?_;refine AWp.loopE (fun (s2 : Int × List Tc) (γ2 : Nat) => ⟨[⟨30, none, .sl (v1.map eTxt) .no⟩, ⟨31, none, .n (lenL v1)⟩, ⟨32, none, .n s2.1⟩, ⟨6, none, .sl (s2.2.map Tc.enc) (.own 0 (γ2) 4)⟩], [.room (γ2)]⟩) (fun (v2 : List Tc) (γ2a : Nat) => ⟨[⟨6, none, .sl (v2.map Tc.enc) (.own 0 (γ2a) 4)⟩], [.room (γ2a)]⟩) (gy.fin x0) hr 0 1 (by simp) (fun s2 f γ2 hr => ?_) (fun v2 γ2a σ1 m1 hr hc => ?_) (fun _ h => h)
   ·unfold gy.loop2 at hr;refine tqN hΓ [33] [] ?_ (by simp; exact rr);refine AWp.seq ?_;refine AWp.cnd hr (by simp) (fun h16 hr => ?_) (fun h16 hr => ?_)
    ·refine AWp.skip ?_;refine AWp.seq ?_;refine AWp.block ?_;obtain ⟨h17, hr⟩ := Lb hr;refine tqN hΓ [7, 8] [33] ?_ (by simp [h16, h17]; exact rr);obtain ⟨r1, h18, hr⟩ := Ld hr;refine tqN hΓ [9, 10] [8] ?_ (by simp [h18]; exact rr);refine AWp.seq ?_;refine tqN hΓ [43] [] ?_ (by simp; exact rr);refine AWp.cnd hr (by simp) (fun h19 hr => ?_) (fun h19 hr => ?_)
     ·refine tqN hΓ [2, 3, 4] [43, 9, 10, 7, 30, 31, 32, 6] ?_ (by simp [h19]; exact rr);refine AWp.ret ?_;obtain rfl := La hr;refine round_ret ?_;refine Le ?_;simp [h19]
     ·refine AWp.skip ?_;obtain ⟨h20, hr⟩ := Lb hr;refine tlN hΓ [6] [43, 9, 10, 7] ?_ (by simp [h19, h20]; exact rr);refine tlN hΓ [32] [] ?_ (by simp; exact rr);obtain rfl := La hr;exact Lo (γ2 + 1) 1 (by first | (simp; done) | simp [h11, h15, h16, h17, h18, h19, h20])
    ·refine AWp.exit ?_;obtain rfl := La hr;exact Lr (γ2) 1 (by first | (simp; done) | simp [h11, h15, h16])
   ·refine AWp.conv hc ?_;refine tqN hΓ [2, 3, 4] [6] ?_ (by simp; exact rr);obtain rfl := La hr;exact AWp.ret (Le (by simp [*]))
@[simp] noncomputable def gy.S : Sp
  | [.lit (.string x0)], _ => some { av := .tup [.sl ((((gy x0).getD dflt).1).map Tc.enc) (tokN (neI (((gy x0).getD dflt).2.2) 0)), .lit (.int .i64 (((gy x0).getD dflt).2.1)), .lit (.int .i64 (((gy x0).getD dflt).2.2))], M := none, obl := (gy x0).isSome = true }
  | _, _ => none
set_option maxHeartbeats 1000000 in
theorem gy.ok : SpecOk Tryz.prog 7 gy.S := by
 intro l M out h;unfold gy.S at h;split at h
 ·rename_i x0;cases h;refine callOk_of fun ho => ?_;have hs := ho;obtain ⟨r, hr⟩ := so1 hs;simp only [hr, gd1];have q := Lh (M := M) [] (gy.can x0 r hr) (by simp) rfl ixn;exact callOk_conv q trivial (by simp) (by simp only [gy.out]; cases neI r.2.2 0 <;> simp [frameOut]) (by simp only [gy.out]; cases neI r.2.2 0 <;> simp [frameOut])
 ·cases h
end Go.Proofs
end
section
namespace Go.Proofs
open Go.Ab
theorem nth_n {α : Type} [Inhabited α] {l : List α} {k : Nat} (h : k < l.length) : nthI l (k : Int) = l[k] := by simp [nthI, List.getD_eq_getElem?_getD, h]
theorem cut_to {α : Type} (l : List α) (k : Nat) : cutL l 0 (k : Int) = l.take k := by simp [cutL]
theorem cut_from {α : Type} (l : List α) (k : Nat) : cutL l (k : Int) (lenL l) = l.drop k := by
 unfold cutL lenL;rw [List.take_of_length_le (by simp)];simp
theorem lenL_n {α : Type} (l : List α) : lenL l = (l.length : Int) := rfl
theorem vq_audio : eqS ⟨#[97, 117, 100, 105, 111]⟩ ⟨#[97, 117, 100, 105, 111]⟩ = true ∧ eqS ⟨#[97, 117, 100, 105, 111]⟩ ⟨#[99, 114, 101, 100, 105, 116]⟩ = false ∧ eqS ⟨#[97, 117, 100, 105, 111]⟩ ⟨#[100, 97, 116, 97]⟩ = false ∧ eqS ⟨#[97, 117, 100, 105, 111]⟩ ⟨#[106, 111, 105, 110]⟩ = false ∧ eqS ⟨#[97, 117, 100, 105, 111]⟩ ⟨#[108, 101, 97, 118, 101]⟩ = false ∧ eqS ⟨#[97, 117, 100, 105, 111]⟩ ⟨#[109, 117, 116, 101]⟩ = false ∧ eqS ⟨#[97, 117, 100, 105, 111]⟩ ⟨#[112, 97, 117, 115, 101]⟩ = false ∧ eqS ⟨#[97, 117, 100, 105, 111]⟩ ⟨#[115, 117, 98, 115, 99, 114, 105, 98, 101]⟩ = false ∧ eqS ⟨#[97, 117, 100, 105, 111]⟩ ⟨#[116, 105, 99, 107]⟩ = false ∧ eqS ⟨#[97, 117, 100, 105, 111]⟩ ⟨#[117, 110, 112, 117, 98, 108, 105, 115, 104]⟩ = false ∧ eqS ⟨#[97, 117, 100, 105, 111]⟩ ⟨#[117, 110, 115, 117, 98, 115, 99, 114, 105, 98, 101]⟩ = false ∧ eqS ⟨#[97, 117, 100, 105, 111]⟩ ⟨#[118, 105, 100, 101, 111]⟩ = false := by
 simp only [eqS_b];decide +kernel
theorem vq_credit : eqS ⟨#[99, 114, 101, 100, 105, 116]⟩ ⟨#[97, 117, 100, 105, 111]⟩ = false ∧ eqS ⟨#[99, 114, 101, 100, 105, 116]⟩ ⟨#[99, 114, 101, 100, 105, 116]⟩ = true ∧ eqS ⟨#[99, 114, 101, 100, 105, 116]⟩ ⟨#[100, 97, 116, 97]⟩ = false ∧ eqS ⟨#[99, 114, 101, 100, 105, 116]⟩ ⟨#[106, 111, 105, 110]⟩ = false ∧ eqS ⟨#[99, 114, 101, 100, 105, 116]⟩ ⟨#[108, 101, 97, 118, 101]⟩ = false ∧ eqS ⟨#[99, 114, 101, 100, 105, 116]⟩ ⟨#[109, 117, 116, 101]⟩ = false ∧ eqS ⟨#[99, 114, 101, 100, 105, 116]⟩ ⟨#[112, 97, 117, 115, 101]⟩ = false ∧ eqS ⟨#[99, 114, 101, 100, 105, 116]⟩ ⟨#[115, 117, 98, 115, 99, 114, 105, 98, 101]⟩ = false ∧ eqS ⟨#[99, 114, 101, 100, 105, 116]⟩ ⟨#[116, 105, 99, 107]⟩ = false ∧ eqS ⟨#[99, 114, 101, 100, 105, 116]⟩ ⟨#[117, 110, 112, 117, 98, 108, 105, 115, 104]⟩ = false ∧ eqS ⟨#[99, 114, 101, 100, 105, 116]⟩ ⟨#[117, 110, 115, 117, 98, 115, 99, 114, 105, 98, 101]⟩ = false ∧ eqS ⟨#[99, 114, 101, 100, 105, 116]⟩ ⟨#[118, 105, 100, 101, 111]⟩ = false := by
 simp only [eqS_b];decide +kernel
theorem vq_data : eqS ⟨#[100, 97, 116, 97]⟩ ⟨#[97, 117, 100, 105, 111]⟩ = false ∧ eqS ⟨#[100, 97, 116, 97]⟩ ⟨#[99, 114, 101, 100, 105, 116]⟩ = false ∧ eqS ⟨#[100, 97, 116, 97]⟩ ⟨#[100, 97, 116, 97]⟩ = true ∧ eqS ⟨#[100, 97, 116, 97]⟩ ⟨#[106, 111, 105, 110]⟩ = false ∧ eqS ⟨#[100, 97, 116, 97]⟩ ⟨#[108, 101, 97, 118, 101]⟩ = false ∧ eqS ⟨#[100, 97, 116, 97]⟩ ⟨#[109, 117, 116, 101]⟩ = false ∧ eqS ⟨#[100, 97, 116, 97]⟩ ⟨#[112, 97, 117, 115, 101]⟩ = false ∧ eqS ⟨#[100, 97, 116, 97]⟩ ⟨#[115, 117, 98, 115, 99, 114, 105, 98, 101]⟩ = false ∧ eqS ⟨#[100, 97, 116, 97]⟩ ⟨#[116, 105, 99, 107]⟩ = false ∧ eqS ⟨#[100, 97, 116, 97]⟩ ⟨#[117, 110, 112, 117, 98, 108, 105, 115, 104]⟩ = false ∧ eqS ⟨#[100, 97, 116, 97]⟩ ⟨#[117, 110, 115, 117, 98, 115, 99, 114, 105, 98, 101]⟩ = false ∧ eqS ⟨#[100, 97, 116, 97]⟩ ⟨#[118, 105, 100, 101, 111]⟩ = false := by
 simp only [eqS_b];decide +kernel
theorem vq_join : eqS ⟨#[106, 111, 105, 110]⟩ ⟨#[97, 117, 100, 105, 111]⟩ = false ∧ eqS ⟨#[106, 111, 105, 110]⟩ ⟨#[99, 114, 101, 100, 105, 116]⟩ = false ∧ eqS ⟨#[106, 111, 105, 110]⟩ ⟨#[100, 97, 116, 97]⟩ = false ∧ eqS ⟨#[106, 111, 105, 110]⟩ ⟨#[106, 111, 105, 110]⟩ = true ∧ eqS ⟨#[106, 111, 105, 110]⟩ ⟨#[108, 101, 97, 118, 101]⟩ = false ∧ eqS ⟨#[106, 111, 105, 110]⟩ ⟨#[109, 117, 116, 101]⟩ = false ∧ eqS ⟨#[106, 111, 105, 110]⟩ ⟨#[112, 97, 117, 115, 101]⟩ = false ∧ eqS ⟨#[106, 111, 105, 110]⟩ ⟨#[115, 117, 98, 115, 99, 114, 105, 98, 101]⟩ = false ∧ eqS ⟨#[106, 111, 105, 110]⟩ ⟨#[116, 105, 99, 107]⟩ = false ∧ eqS ⟨#[106, 111, 105, 110]⟩ ⟨#[117, 110, 112, 117, 98, 108, 105, 115, 104]⟩ = false ∧ eqS ⟨#[106, 111, 105, 110]⟩ ⟨#[117, 110, 115, 117, 98, 115, 99, 114, 105, 98, 101]⟩ = false ∧ eqS ⟨#[106, 111, 105, 110]⟩ ⟨#[118, 105, 100, 101, 111]⟩ = false := by
 simp only [eqS_b];decide +kernel
theorem vq_leave : eqS ⟨#[108, 101, 97, 118, 101]⟩ ⟨#[97, 117, 100, 105, 111]⟩ = false ∧ eqS ⟨#[108, 101, 97, 118, 101]⟩ ⟨#[99, 114, 101, 100, 105, 116]⟩ = false ∧ eqS ⟨#[108, 101, 97, 118, 101]⟩ ⟨#[100, 97, 116, 97]⟩ = false ∧ eqS ⟨#[108, 101, 97, 118, 101]⟩ ⟨#[106, 111, 105, 110]⟩ = false ∧ eqS ⟨#[108, 101, 97, 118, 101]⟩ ⟨#[108, 101, 97, 118, 101]⟩ = true ∧ eqS ⟨#[108, 101, 97, 118, 101]⟩ ⟨#[109, 117, 116, 101]⟩ = false ∧ eqS ⟨#[108, 101, 97, 118, 101]⟩ ⟨#[112, 97, 117, 115, 101]⟩ = false ∧ eqS ⟨#[108, 101, 97, 118, 101]⟩ ⟨#[115, 117, 98, 115, 99, 114, 105, 98, 101]⟩ = false ∧ eqS ⟨#[108, 101, 97, 118, 101]⟩ ⟨#[116, 105, 99, 107]⟩ = false ∧ eqS ⟨#[108, 101, 97, 118, 101]⟩ ⟨#[117, 110, 112, 117, 98, 108, 105, 115, 104]⟩ = false ∧ eqS ⟨#[108, 101, 97, 118, 101]⟩ ⟨#[117, 110, 115, 117, 98, 115, 99, 114, 105, 98, 101]⟩ = false ∧ eqS ⟨#[108, 101, 97, 118, 101]⟩ ⟨#[118, 105, 100, 101, 111]⟩ = false := by
 simp only [eqS_b];decide +kernel
theorem vq_mute : eqS ⟨#[109, 117, 116, 101]⟩ ⟨#[97, 117, 100, 105, 111]⟩ = false ∧ eqS ⟨#[109, 117, 116, 101]⟩ ⟨#[99, 114, 101, 100, 105, 116]⟩ = false ∧ eqS ⟨#[109, 117, 116, 101]⟩ ⟨#[100, 97, 116, 97]⟩ = false ∧ eqS ⟨#[109, 117, 116, 101]⟩ ⟨#[106, 111, 105, 110]⟩ = false ∧ eqS ⟨#[109, 117, 116, 101]⟩ ⟨#[108, 101, 97, 118, 101]⟩ = false ∧ eqS ⟨#[109, 117, 116, 101]⟩ ⟨#[109, 117, 116, 101]⟩ = true ∧ eqS ⟨#[109, 117, 116, 101]⟩ ⟨#[112, 97, 117, 115, 101]⟩ = false ∧ eqS ⟨#[109, 117, 116, 101]⟩ ⟨#[115, 117, 98, 115, 99, 114, 105, 98, 101]⟩ = false ∧ eqS ⟨#[109, 117, 116, 101]⟩ ⟨#[116, 105, 99, 107]⟩ = false ∧ eqS ⟨#[109, 117, 116, 101]⟩ ⟨#[117, 110, 112, 117, 98, 108, 105, 115, 104]⟩ = false ∧ eqS ⟨#[109, 117, 116, 101]⟩ ⟨#[117, 110, 115, 117, 98, 115, 99, 114, 105, 98, 101]⟩ = false ∧ eqS ⟨#[109, 117, 116, 101]⟩ ⟨#[118, 105, 100, 101, 111]⟩ = false := by
 simp only [eqS_b];decide +kernel
theorem vq_pause : eqS ⟨#[112, 97, 117, 115, 101]⟩ ⟨#[97, 117, 100, 105, 111]⟩ = false ∧ eqS ⟨#[112, 97, 117, 115, 101]⟩ ⟨#[99, 114, 101, 100, 105, 116]⟩ = false ∧ eqS ⟨#[112, 97, 117, 115, 101]⟩ ⟨#[100, 97, 116, 97]⟩ = false ∧ eqS ⟨#[112, 97, 117, 115, 101]⟩ ⟨#[106, 111, 105, 110]⟩ = false ∧ eqS ⟨#[112, 97, 117, 115, 101]⟩ ⟨#[108, 101, 97, 118, 101]⟩ = false ∧ eqS ⟨#[112, 97, 117, 115, 101]⟩ ⟨#[109, 117, 116, 101]⟩ = false ∧ eqS ⟨#[112, 97, 117, 115, 101]⟩ ⟨#[112, 97, 117, 115, 101]⟩ = true ∧ eqS ⟨#[112, 97, 117, 115, 101]⟩ ⟨#[115, 117, 98, 115, 99, 114, 105, 98, 101]⟩ = false ∧ eqS ⟨#[112, 97, 117, 115, 101]⟩ ⟨#[116, 105, 99, 107]⟩ = false ∧ eqS ⟨#[112, 97, 117, 115, 101]⟩ ⟨#[117, 110, 112, 117, 98, 108, 105, 115, 104]⟩ = false ∧ eqS ⟨#[112, 97, 117, 115, 101]⟩ ⟨#[117, 110, 115, 117, 98, 115, 99, 114, 105, 98, 101]⟩ = false ∧ eqS ⟨#[112, 97, 117, 115, 101]⟩ ⟨#[118, 105, 100, 101, 111]⟩ = false := by
 simp only [eqS_b];decide +kernel
theorem vq_subscribe : eqS ⟨#[115, 117, 98, 115, 99, 114, 105, 98, 101]⟩ ⟨#[97, 117, 100, 105, 111]⟩ = false ∧ eqS ⟨#[115, 117, 98, 115, 99, 114, 105, 98, 101]⟩ ⟨#[99, 114, 101, 100, 105, 116]⟩ = false ∧ eqS ⟨#[115, 117, 98, 115, 99, 114, 105, 98, 101]⟩ ⟨#[100, 97, 116, 97]⟩ = false ∧ eqS ⟨#[115, 117, 98, 115, 99, 114, 105, 98, 101]⟩ ⟨#[106, 111, 105, 110]⟩ = false ∧ eqS ⟨#[115, 117, 98, 115, 99, 114, 105, 98, 101]⟩ ⟨#[108, 101, 97, 118, 101]⟩ = false ∧ eqS ⟨#[115, 117, 98, 115, 99, 114, 105, 98, 101]⟩ ⟨#[109, 117, 116, 101]⟩ = false ∧ eqS ⟨#[115, 117, 98, 115, 99, 114, 105, 98, 101]⟩ ⟨#[112, 97, 117, 115, 101]⟩ = false ∧ eqS ⟨#[115, 117, 98, 115, 99, 114, 105, 98, 101]⟩ ⟨#[115, 117, 98, 115, 99, 114, 105, 98, 101]⟩ = true ∧ eqS ⟨#[115, 117, 98, 115, 99, 114, 105, 98, 101]⟩ ⟨#[116, 105, 99, 107]⟩ = false ∧ eqS ⟨#[115, 117, 98, 115, 99, 114, 105, 98, 101]⟩ ⟨#[117, 110, 112, 117, 98, 108, 105, 115, 104]⟩ = false ∧ eqS ⟨#[115, 117, 98, 115, 99, 114, 105, 98, 101]⟩ ⟨#[117, 110, 115, 117, 98, 115, 99, 114, 105, 98, 101]⟩ = false ∧ eqS ⟨#[115, 117, 98, 115, 99, 114, 105, 98, 101]⟩ ⟨#[118, 105, 100, 101, 111]⟩ = false := by
 simp only [eqS_b];decide +kernel
theorem vq_tick : eqS ⟨#[116, 105, 99, 107]⟩ ⟨#[97, 117, 100, 105, 111]⟩ = false ∧ eqS ⟨#[116, 105, 99, 107]⟩ ⟨#[99, 114, 101, 100, 105, 116]⟩ = false ∧ eqS ⟨#[116, 105, 99, 107]⟩ ⟨#[100, 97, 116, 97]⟩ = false ∧ eqS ⟨#[116, 105, 99, 107]⟩ ⟨#[106, 111, 105, 110]⟩ = false ∧ eqS ⟨#[116, 105, 99, 107]⟩ ⟨#[108, 101, 97, 118, 101]⟩ = false ∧ eqS ⟨#[116, 105, 99, 107]⟩ ⟨#[109, 117, 116, 101]⟩ = false ∧ eqS ⟨#[116, 105, 99, 107]⟩ ⟨#[112, 97, 117, 115, 101]⟩ = false ∧ eqS ⟨#[116, 105, 99, 107]⟩ ⟨#[115, 117, 98, 115, 99, 114, 105, 98, 101]⟩ = false ∧ eqS ⟨#[116, 105, 99, 107]⟩ ⟨#[116, 105, 99, 107]⟩ = true ∧ eqS ⟨#[116, 105, 99, 107]⟩ ⟨#[117, 110, 112, 117, 98, 108, 105, 115, 104]⟩ = false ∧ eqS ⟨#[116, 105, 99, 107]⟩ ⟨#[117, 110, 115, 117, 98, 115, 99, 114, 105, 98, 101]⟩ = false ∧ eqS ⟨#[116, 105, 99, 107]⟩ ⟨#[118, 105, 100, 101, 111]⟩ = false := by
 simp only [eqS_b];decide +kernel
theorem vq_unpublish : eqS ⟨#[117, 110, 112, 117, 98, 108, 105, 115, 104]⟩ ⟨#[97, 117, 100, 105, 111]⟩ = false ∧ eqS ⟨#[117, 110, 112, 117, 98, 108, 105, 115, 104]⟩ ⟨#[99, 114, 101, 100, 105, 116]⟩ = false ∧ eqS ⟨#[117, 110, 112, 117, 98, 108, 105, 115, 104]⟩ ⟨#[100, 97, 116, 97]⟩ = false ∧ eqS ⟨#[117, 110, 112, 117, 98, 108, 105, 115, 104]⟩ ⟨#[106, 111, 105, 110]⟩ = false ∧ eqS ⟨#[117, 110, 112, 117, 98, 108, 105, 115, 104]⟩ ⟨#[108, 101, 97, 118, 101]⟩ = false ∧ eqS ⟨#[117, 110, 112, 117, 98, 108, 105, 115, 104]⟩ ⟨#[109, 117, 116, 101]⟩ = false ∧ eqS ⟨#[117, 110, 112, 117, 98, 108, 105, 115, 104]⟩ ⟨#[112, 97, 117, 115, 101]⟩ = false ∧ eqS ⟨#[117, 110, 112, 117, 98, 108, 105, 115, 104]⟩ ⟨#[115, 117, 98, 115, 99, 114, 105, 98, 101]⟩ = false ∧ eqS ⟨#[117, 110, 112, 117, 98, 108, 105, 115, 104]⟩ ⟨#[116, 105, 99, 107]⟩ = false ∧ eqS ⟨#[117, 110, 112, 117, 98, 108, 105, 115, 104]⟩ ⟨#[117, 110, 112, 117, 98, 108, 105, 115, 104]⟩ = true ∧ eqS ⟨#[117, 110, 112, 117, 98, 108, 105, 115, 104]⟩ ⟨#[117, 110, 115, 117, 98, 115, 99, 114, 105, 98, 101]⟩ = false ∧ eqS ⟨#[117, 110, 112, 117, 98, 108, 105, 115, 104]⟩ ⟨#[118, 105, 100, 101, 111]⟩ = false := by
 simp only [eqS_b];decide +kernel
theorem vq_unsubscribe : eqS ⟨#[117, 110, 115, 117, 98, 115, 99, 114, 105, 98, 101]⟩ ⟨#[97, 117, 100, 105, 111]⟩ = false ∧ eqS ⟨#[117, 110, 115, 117, 98, 115, 99, 114, 105, 98, 101]⟩ ⟨#[99, 114, 101, 100, 105, 116]⟩ = false ∧ eqS ⟨#[117, 110, 115, 117, 98, 115, 99, 114, 105, 98, 101]⟩ ⟨#[100, 97, 116, 97]⟩ = false ∧ eqS ⟨#[117, 110, 115, 117, 98, 115, 99, 114, 105, 98, 101]⟩ ⟨#[106, 111, 105, 110]⟩ = false ∧ eqS ⟨#[117, 110, 115, 117, 98, 115, 99, 114, 105, 98, 101]⟩ ⟨#[108, 101, 97, 118, 101]⟩ = false ∧ eqS ⟨#[117, 110, 115, 117, 98, 115, 99, 114, 105, 98, 101]⟩ ⟨#[109, 117, 116, 101]⟩ = false ∧ eqS ⟨#[117, 110, 115, 117, 98, 115, 99, 114, 105, 98, 101]⟩ ⟨#[112, 97, 117, 115, 101]⟩ = false ∧ eqS ⟨#[117, 110, 115, 117, 98, 115, 99, 114, 105, 98, 101]⟩ ⟨#[115, 117, 98, 115, 99, 114, 105, 98, 101]⟩ = false ∧ eqS ⟨#[117, 110, 115, 117, 98, 115, 99, 114, 105, 98, 101]⟩ ⟨#[116, 105, 99, 107]⟩ = false ∧ eqS ⟨#[117, 110, 115, 117, 98, 115, 99, 114, 105, 98, 101]⟩ ⟨#[117, 110, 112, 117, 98, 108, 105, 115, 104]⟩ = false ∧ eqS ⟨#[117, 110, 115, 117, 98, 115, 99, 114, 105, 98, 101]⟩ ⟨#[117, 110, 115, 117, 98, 115, 99, 114, 105, 98, 101]⟩ = true ∧ eqS ⟨#[117, 110, 115, 117, 98, 115, 99, 114, 105, 98, 101]⟩ ⟨#[118, 105, 100, 101, 111]⟩ = false := by
 simp only [eqS_b];decide +kernel
theorem vq_video : eqS ⟨#[118, 105, 100, 101, 111]⟩ ⟨#[97, 117, 100, 105, 111]⟩ = false ∧ eqS ⟨#[118, 105, 100, 101, 111]⟩ ⟨#[99, 114, 101, 100, 105, 116]⟩ = false ∧ eqS ⟨#[118, 105, 100, 101, 111]⟩ ⟨#[100, 97, 116, 97]⟩ = false ∧ eqS ⟨#[118, 105, 100, 101, 111]⟩ ⟨#[106, 111, 105, 110]⟩ = false ∧ eqS ⟨#[118, 105, 100, 101, 111]⟩ ⟨#[108, 101, 97, 118, 101]⟩ = false ∧ eqS ⟨#[118, 105, 100, 101, 111]⟩ ⟨#[109, 117, 116, 101]⟩ = false ∧ eqS ⟨#[118, 105, 100, 101, 111]⟩ ⟨#[112, 97, 117, 115, 101]⟩ = false ∧ eqS ⟨#[118, 105, 100, 101, 111]⟩ ⟨#[115, 117, 98, 115, 99, 114, 105, 98, 101]⟩ = false ∧ eqS ⟨#[118, 105, 100, 101, 111]⟩ ⟨#[116, 105, 99, 107]⟩ = false ∧ eqS ⟨#[118, 105, 100, 101, 111]⟩ ⟨#[117, 110, 112, 117, 98, 108, 105, 115, 104]⟩ = false ∧ eqS ⟨#[118, 105, 100, 101, 111]⟩ ⟨#[117, 110, 115, 117, 98, 115, 99, 114, 105, 98, 101]⟩ = false ∧ eqS ⟨#[118, 105, 100, 101, 111]⟩ ⟨#[118, 105, 100, 101, 111]⟩ = true := by
 simp only [eqS_b];decide +kernel
theorem pl_audio (l : List ByteArray) : gj ⟨#[97, 117, 100, 105, 111]⟩ l = some ((Tc.mk 0 0 ⟨#[]⟩ 0), false) := by
 unfold gj;simp only [vq_audio, pickB, cond_false]
theorem pl_join (l : List ByteArray) : gj ⟨#[106, 111, 105, 110]⟩ l = some ((Tc.mk 0 0 ⟨#[]⟩ 0), false) := by
 unfold gj;simp only [vq_join, pickB, cond_false]
theorem pl_leave (l : List ByteArray) : gj ⟨#[108, 101, 97, 118, 101]⟩ l = some ((Tc.mk 0 0 ⟨#[]⟩ 0), false) := by
 unfold gj;simp only [vq_leave, pickB, cond_false]
theorem pl_mute (l : List ByteArray) : gj ⟨#[109, 117, 116, 101]⟩ l = some ((Tc.mk 0 0 ⟨#[]⟩ 0), false) := by
 unfold gj;simp only [vq_mute, pickB, cond_false]
theorem pl_pause (l : List ByteArray) : gj ⟨#[112, 97, 117, 115, 101]⟩ l = some ((Tc.mk 0 0 ⟨#[]⟩ 0), false) := by
 unfold gj;simp only [vq_pause, pickB, cond_false]
theorem pl_subscribe (l : List ByteArray) : gj ⟨#[115, 117, 98, 115, 99, 114, 105, 98, 101]⟩ l = some ((Tc.mk 0 0 ⟨#[]⟩ 0), false) := by
 unfold gj;simp only [vq_subscribe, pickB, cond_false]
theorem pl_unpublish (l : List ByteArray) : gj ⟨#[117, 110, 112, 117, 98, 108, 105, 115, 104]⟩ l = some ((Tc.mk 0 0 ⟨#[]⟩ 0), false) := by
 unfold gj;simp only [vq_unpublish, pickB, cond_false]
theorem pl_unsubscribe (l : List ByteArray) : gj ⟨#[117, 110, 115, 117, 98, 115, 99, 114, 105, 98, 101]⟩ l = some ((Tc.mk 0 0 ⟨#[]⟩ 0), false) := by
 unfold gj;simp only [vq_unsubscribe, pickB, cond_false]
theorem pl_video (l : List ByteArray) : gj ⟨#[118, 105, 100, 101, 111]⟩ l = some ((Tc.mk 0 0 ⟨#[]⟩ 0), false) := by
 unfold gj;simp only [vq_video, pickB, cond_false]
end Go.Proofs
end
section
namespace Go.Proofs
open Go.Ab
theorem splitT_pos (s : ByteArray) (c : UInt8) : 1 ≤ (splitT s c).length := by
 unfold splitT;rw [List.length_map];exact List.length_pos_iff.2 (splitL_ne c _)
theorem good_len {s : ByteArray} (h : goodB (scan s 0) = true) : 0 < s.size ∧ s.size ≤ 64 := by
 have hl := scan_len s 0;simp only [goodB, Bool.and_eq_true, decide_eq_true_eq] at h;omega
theorem valid_shp {c : Cmd} (h : Valid c) (hs : ∀ x ∈ c.fb, 0 ≤ x ∧ x < 4294967296) : ∃ l, Shp c l := by
 cases h
 case join r n h1 h2 =>
  have g1 := good_len h1;have g2 := good_len h2;have := Shp.join (bytesOf r) (bytesOf n) (by rw [bytesOf_len]; omega) (by rw [bytesOf_len]; omega);rw [ofB_of, ofB_of] at this;exact ⟨_, this⟩
 case leave p hp => exact ⟨_, .leave p ⟨hp.1, by omega⟩⟩
 case publish p t v ss hp ht hl => exact ⟨_, .publish p t v ss ⟨hp.1, by omega⟩ ⟨ht.1, by omega⟩ (by omega) hs⟩
 case unpublish p t hp ht => exact ⟨_, .unpublish p t ⟨hp.1, by omega⟩ ⟨ht.1, by omega⟩⟩
 case subscribe p o t l hp ho ht hl => exact ⟨_, .subscribe p o t l ⟨hp.1, by omega⟩ ⟨ho.1, by omega⟩ ⟨ht.1, by omega⟩ ⟨hl.1, by omega⟩⟩
 case unsubscribe p o t hp ho ht => exact ⟨_, .unsubscribe p o t ⟨hp.1, by omega⟩ ⟨ho.1, by omega⟩ ⟨ht.1, by omega⟩⟩
 case mute p t b hp ht => exact ⟨_, .mute p t b ⟨hp.1, by omega⟩ ⟨ht.1, by omega⟩⟩
 case pause p o t b hp ho ht => exact ⟨_, .pause p o t b ⟨hp.1, by omega⟩ ⟨ho.1, by omega⟩ ⟨ht.1, by omega⟩⟩
def verbsL : List ByteArray := [⟨#[97, 117, 100, 105, 111]⟩, ⟨#[99, 114, 101, 100, 105, 116]⟩, ⟨#[100, 97, 116, 97]⟩, ⟨#[106, 111, 105, 110]⟩, ⟨#[108, 101, 97, 118, 101]⟩, ⟨#[109, 117, 116, 101]⟩, ⟨#[112, 97, 117, 115, 101]⟩, ⟨#[115, 117, 98, 115, 99, 114, 105, 98, 101]⟩, ⟨#[116, 105, 99, 107]⟩, ⟨#[117, 110, 112, 117, 98, 108, 105, 115, 104]⟩, ⟨#[117, 110, 115, 117, 98, 115, 99, 114, 105, 98, 101]⟩, ⟨#[118, 105, 100, 101, 111]⟩]
noncomputable def lineE (s : ByteArray) : Tc × Int := (ga s).getD default
theorem lineE_of {s : ByteArray} {e : Tc} {err : Int} (h : ga s = some (e, err)) : lineE s = (e, err) := by unfold lineE; rw [h]; rfl
def rowsOf (L : List ByteArray) : List ByteArray := bif eqS (nthI L (subI .i64 (lenL L) 1)) ⟨#[]⟩ then cutL L 0 (subI .i64 (lenL L) 1) else L
theorem rows_d {X : Type} {L : List ByteArray} (h1 : 1 ≤ L.length) (h2 : L.length ≤ 1000) (k : List ByteArray → Option X) :
  ((need (InB (subI .i64 (lenL L) 1) (lenL L)) (bif eqS (nthI L (subI .i64 (lenL L) 1)) ⟨#[]⟩ then need (CutB 0 (subI .i64 (lenL L) 1) (lenL L)) (some (.go (cutL L 0 (subI .i64 (lenL L) 1)))) else some (.go L)) : Option (Fl (List ByteArray) X)).bind fun f => flC f k) = k (rowsOf L) := by
 have hsub : subI .i64 (lenL L) 1 = ((L.length - 1 : Nat) : Int) := by rw [lenL_n, subI_n (by omega) (by omega)]; omega
 unfold rowsOf;rw [hsub, Lf (show InB ((L.length - 1 : Nat) : Int) (lenL L) from ⟨by omega, by rw [lenL_n]; omega⟩), Lf (show CutB 0 ((L.length - 1 : Nat) : Int) (lenL L) from ⟨by omega, by omega, by rw [lenL_n]; omega⟩)];cases eqS (nthI L ((L.length - 1 : Nat) : Int)) ⟨#[]⟩ <;> rfl
end Go.Proofs
end
section
namespace Go.Proofs
open Go.Ab Go.Lib
theorem lower_rng {r : Int} (h0 : 0 ≤ r) (h1 : r ≤ 1114111) : I32B (lowerR r) := by
 obtain ⟨n, rfl⟩ : ∃ n : Nat, r = n := ⟨r.toNat, by omega⟩;have := toLowerU_range n (by omega);unfold lowerR;exact ⟨by omega, by omega⟩
theorem lower_S (s : ByteArray) (pos : Nat) : I32B (lowerR (runeS s pos)) := by
 rw [runeS_d];have := rune_rng (restS s pos);exact lower_rng this.1 this.2
noncomputable def foldS (s : ByteArray) : ByteArray := runesBytes ((scan s 0).map lowerR)
theorem foldS_b (s : ByteArray) : bytesOf (foldS s) = ((scan s 0).map lowerR).flatMap encodeRune := runes_b _
theorem runeZ_len (r : Int) : 1 ≤ (runeZ r).length ∧ (runeZ r).length ≤ 4 := encodeRuneZ_length r
theorem fold_loop (s : ByteArray) : ∀ (m pos : Nat) (out : List Int), (restS s pos).length ≤ m → out.length + 4 * m ≤ 100000000 →
  loopF (gL.loop1 s) (out, pos) = some (.go (out ++ (scan s pos).flatMap fun r => runeZ (lowerR r))) := by
 intro m
 induction m with
 | zero =>
   intro pos out hm _;have h : restS s pos = [] := List.eq_nil_of_length_eq_zero (by omega);rw [loopF_eq];simp [gL.loop1, nextB_f h, scan_f h]
 | succ m ih =>
   intro pos out hm hb;by_cases h : restS s pos = []
   ·rw [loopF_eq];simp [gL.loop1, nextB_f h, scan_f h]
   have hst := step_gt s pos;have hl := restS_len s pos;have hl' := restS_len s (stepS s pos);have hpos := List.length_pos_iff.2 h;have hz := runeZ_len (lowerR (runeS s pos));rw [loopF_eq, scan_t h];simp only [gL.loop1, nextB_t h, cond_true];rw [Lf (lower_S s pos), Lf (by unfold AppB lenL; omega)];simp only [];rw [ih _ _ (by omega) (by simp only [appL, List.length_append]; omega)];simp [appL]
theorem fold_d {s : ByteArray} (hs : s.size ≤ 1000000) (h0 : bytesOf s ≠ []) : gL s = some (foldS s) := by
 unfold gL;rw [fold_loop s s.size 0 [] (by rw [restS_len]; exact Nat.le_refl _) (by simp only [List.length_nil]; omega)];simp only [Lg, flC_go, List.nil_append];have e : ((scan s 0).flatMap fun r => runeZ (lowerR r)) = ((scan s 0).map lowerR).flatMap runeZ := by rw [List.flatMap_map]
 rw [e, Lf]
 ·congr 1;exact bytes_ext (by rw [numsRune_b, foldS_b])
 ·refine ⟨?_, fun x hx => ?_⟩
  ·have hb0 : restS s 0 = bytesOf s := rfl;rw [scan_t (by rw [hb0]; exact h0), List.map_cons, List.flatMap_cons];intro q;have := congrArg List.length q;have hz := runeZ_len (lowerR (runeS s 0));simp only [List.length_append, List.length_nil] at this;omega
  ·obtain ⟨r, _, hx⟩ := List.mem_flatMap.1 hx;exact encodeRuneZ_byte r x hx
theorem rfold_loop (s : ByteArray) : ∀ (m pos : Nat) (out : List Int), (restS s pos).length ≤ m → out.length + m ≤ 10000000 →
  loopF (gM.loop1 s) (out, pos) = some (.go (out ++ (scan s pos).map lowerR)) := by
 intro m
 induction m with
 | zero =>
   intro pos out hm _;have h : restS s pos = [] := List.eq_nil_of_length_eq_zero (by omega);rw [loopF_eq];simp [gM.loop1, nextB_f h, scan_f h]
 | succ m ih =>
   intro pos out hm hb;by_cases h : restS s pos = []
   ·rw [loopF_eq];simp [gM.loop1, nextB_f h, scan_f h]
   have hst := step_gt s pos;have hl := restS_len s pos;have hl' := restS_len s (stepS s pos);have hpos := List.length_pos_iff.2 h;rw [loopF_eq, scan_t h];simp only [gM.loop1, nextB_t h, cond_true];rw [Lf (by unfold AppB lenL; omega)];simp only [];rw [ih _ _ (by omega) (by simp only [appL, List.length_append, List.length_cons, List.length_nil]; omega)];simp [appL]
theorem rfold_d {s : ByteArray} (hs : s.size ≤ 1000000) : gM s = some (foldS s) := by
 unfold gM;rw [rfold_loop s s.size 0 [] (by rw [restS_len]; exact Nat.le_refl _) (by simp only [List.length_nil]; omega)];rfl
end Go.Proofs
end

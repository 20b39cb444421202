/- What these functions compute, as plain functions. No condition. -/
import Derived.Test.YtpjplfnapgpfmaaGreatTs
import Derived.Test.YtpjplfnapgpfmaaGreatM05
import Derived.Test.YtpjplfnapgpfmaaGreatM10
import Derived.Test.YtpjplfnapgpfmaaGreatTy
import Derived.Test.YtpjplfnapgpfmaaGreatOw
import Derived.Test.YtpjplfnapgpfmaaGreatYh
section
namespace Go.Proofs
open Go.Ab
noncomputable def gaD : Option Tv :=
 some (Tv.mk false false 0 (-1) false (-1) (-1) false (-1))

noncomputable def gaQ (x0 : Bool) (x1 : Int) : Option Int :=
 bif x0 then (
  some x1
 ) else (
   some 0
 )

noncomputable def gaJ (x0 : Tv) : Option Bool :=
 some (pickB (pickB (pickB (leqI 0 x0.fG) true (leqI 0 x0.fJ)) true (leqI 0 x0.fK)) true (leqI 0 x0.fy))

noncomputable def gae (x0 : Tv) : Option ByteArray :=
 ((gaJ x0)).bind fun r1 =>
 ((gaQ r1 128)).bind fun r2 =>
 ((gaQ x0.fT 32)).bind fun r3 =>
 ((gaQ x0.fV 16)).bind fun r4 =>
 need (AppB 0 1 1) <|
 bif (notB r1) then (
  need (TextB (appL [] [(bitsOp .or .u8 (bitsOp .or .u8 (bitsOp .or .u8 r2 r3) r4) (cvtI .u8 (bitsOp .and .i64 x0.fR 7)))])) <|
  some (strOfNums (appL [] [(bitsOp .or .u8 (bitsOp .or .u8 (bitsOp .or .u8 r2 r3) r4) (cvtI .u8 (bitsOp .and .i64 x0.fR 7)))]))
 ) else (
   ((gaQ (leqI 0 x0.fG) 128)).bind fun r5 =>
   ((gaQ (leqI 0 x0.fJ) 64)).bind fun r6 =>
   ((gaQ (leqI 0 x0.fK) 32)).bind fun r7 =>
   ((gaQ (leqI 0 x0.fy) 16)).bind fun r8 =>
   need (AppB 1 1 1) <|
   ((
    bif (pickB (leqI 0 x0.fG) x0.faa false) then (
     ((gi (appL (appL [] [(bitsOp .or .u8 (bitsOp .or .u8 (bitsOp .or .u8 r2 r3) r4) (cvtI .u8 (bitsOp .and .i64 x0.fR 7)))]) [(bitsOp .or .u8 (bitsOp .or .u8 (bitsOp .or .u8 r5 r6) r7) r8)]) [(bitsOp .or .u16 (cvtI .u16 x0.fG) 32768)])).bind fun r9 =>
     some (.go r9)
    ) else (
      bif (leqI 0 x0.fG) then (
       need (AppB 2 1 1) <|
       some (.go (appL (appL (appL [] [(bitsOp .or .u8 (bitsOp .or .u8 (bitsOp .or .u8 r2 r3) r4) (cvtI .u8 (bitsOp .and .i64 x0.fR 7)))]) [(bitsOp .or .u8 (bitsOp .or .u8 (bitsOp .or .u8 r5 r6) r7) r8)]) [(cvtI .u8 (bitsOp .and .i64 x0.fG 127))]))
      ) else (
        some (.go (appL (appL [] [(bitsOp .or .u8 (bitsOp .or .u8 (bitsOp .or .u8 r2 r3) r4) (cvtI .u8 (bitsOp .and .i64 x0.fR 7)))]) [(bitsOp .or .u8 (bitsOp .or .u8 (bitsOp .or .u8 r5 r6) r7) r8)]))
      )
    )
    : Option (Fl (List Int) ByteArray)).bind fun f => flC f fun (v1 : List Int) =>
    ((
     bif (leqI 0 x0.fJ) then (
      need (AppB (lenL v1) 1 1) <|
      some (.go (appL v1 [(cvtI .u8 x0.fJ)]))
     ) else (
       some (.go v1)
     )
     : Option (Fl (List Int) ByteArray)).bind fun f => flC f fun (v2 : List Int) =>
     ((
      bif (pickB (leqI 0 x0.fK) true (leqI 0 x0.fy)) then (
       need (NonN 6) <|
       ((gaQ x0.fab 32)).bind fun r10 =>
       need (AppB (lenL v2) 1 1) <|
       some (.go (appL v2 [(bitsOp .or .u8 (bitsOp .or .u8 (shlI .u8 (cvtI .u8 (maxI x0.fK 0)) 6) r10) (cvtI .u8 (maxI x0.fy 0)))]))
      ) else (
        some (.go v2)
      )
      : Option (Fl (List Int) ByteArray)).bind fun f => flC f fun (v3 : List Int) =>
      need (TextB v3) <|
      some (strOfNums v3)
     )
    )
   )
 )
end Go.Proofs
end
section
set_option maxRecDepth 100000
set_option maxHeartbeats 4000000
namespace Go.Proofs
open Go.Ab
@[simp] def gaG.out (_x0 : Tw) (r : Int × Int) : Out := { av := .tup [.lit (.int .u8 r.1), .lit (.int .u8 r.2)], M := none }
theorem gaG.can (x0 : Tw) (r : Int × Int) (hr : gaG x0 = some r) : CallOk Tryz.prog 148 [.agg [.lit (.int .u32 x0.fZ), .lit (.int .u32 x0.fTo)]] [] (gaG.out x0 r) := by
 unfold gaG at hr
 have hΓ := gamL_nil (P := Tryz.prog)
 refine cw Tryz.func148 rfl (by kernel_rfl) rfl rfl (by simp) fun _ _ _ => ?_
 refine tq hΓ [] [0] ?_
 refine tq hΓ [2, 3] [] ?_
 obtain rfl := La hr
 exact AWp.ret (Le (by simp))

@[simp] noncomputable def gaG.S : Sp
  | [.agg e0], _ => some { av := .tup [.lit (.int .u8 (((gaG (Tw.dec e0)).getD dflt).1)), .lit (.int .u8 (((gaG (Tw.dec e0)).getD dflt).2))], M := none, obl := WeakL e0 (Tw.enc (Tw.dec e0)) ∧ (gaG (Tw.dec e0)).isSome = true }
  | _, _ => none

theorem gaG.ok : SpecOk Tryz.prog 148 gaG.S := by
 intro l M out h
 unfold gaG.S at h
 split at h
 ·rename_i e0
  cases h
  refine callOk_of fun ho => ?_
  obtain ⟨ox0, hs⟩ := ho
  generalize (Tw.dec e0) = x0 at *
  obtain ⟨r, hr⟩ := so1 hs
  simp only [hr, gd1]
  have q := Lh (M := M) [] (gaG.can x0 r hr) (by simp) rfl ixn
  exact callOk_conv q trivial (by simp; exact ox0) (by simp [frameOut]) (by simp [frameOut])
 ·cases h

@[simp] def gaI.m (_x0 : Tw) (x1 : List Int) : List AObj := [.opq (wrO 119 5 x1)]
@[simp] def gaI.out (_x0 : Tw) (_x1 : List Int) (r : List Int) : Out := { av := .tup [], M := some [.opq (wrO 119 5 r)] }
theorem gaI.can (x0 : Tw) (x1 : List Int) (r : List Int) (hr : gaI x0 x1 = some r) : CallOk Tryz.prog 149 [.agg [.lit (.int .u32 x0.fZ), .lit (.int .u32 x0.fTo)], .ptr 0 0] (gaI.m x0 x1) (gaI.out x0 x1 r) := by
 unfold gaI at hr
 have hΓ := (gamL_cons gk.ok (gamL_nil) : GamOk Tryz.prog _)
 refine cw Tryz.func149 rfl (by kernel_rfl) rfl rfl (by simp) fun _ _ _ => ?_
 refine tq hΓ [2] [0] ?_
 obtain ⟨r1, h2, hr⟩ := Lb hr
 refine tl hΓ [] [2, 1] ?_ (by simp [h2]; exact rr)
 obtain rfl := La hr
 exact fin_norm (by simp)

@[simp] noncomputable def gaI.S : Sp
  | [.agg e0, .ptr i0 0], M => (rdQ M i0).bind fun c0 => some { av := .tup [], M := some (M.set i0 (.opq (wrO 119 5 ((gaI (Tw.dec e0) c0.bs).getD dflt)))), obl := WeakL e0 (Tw.enc (Tw.dec e0)) ∧ c0 = wrO 119 5 c0.bs ∧ (gaI (Tw.dec e0) c0.bs).isSome = true }
  | _, _ => none

theorem gaI.ok : SpecOk Tryz.prog 149 gaI.S := by
 intro l M out h
 unfold gaI.S at h
 split at h
 ·rename_i e0 i0
  obtain ⟨c0, hM0, h⟩ := bQ h
  cases h
  refine callOk_of fun ho => ?_
  obtain ⟨ox0, oc0, hs⟩ := ho
  generalize (Tw.dec e0) = x0 at *
  generalize c0.bs = y0 at *
  subst oc0
  obtain ⟨r, hr⟩ := so1 hs
  simp only [hr, gd1]
  have q := Lh (M := M) [i0] (gaI.can x0 y0 r hr) (by simp) rfl (ix (by simp [hM0]) ixn)
  exact callOk_conv q trivial (by simp [into]; exact ox0) (by simp [frameOut]) (by simp [frameOut])
 ·cases h

@[simp] def gaT.m (x0 : List Int) (_x1 : RtcpPacket) : List AObj := [.opq (wrO 119 5 x0)]
@[simp] def gaT.out (_x0 : List Int) (_x1 : RtcpPacket) (r : List Int) : Out := { av := .tup [], M := some [.opq (wrO 119 5 r)] }
theorem gaT.can (x0 : List Int) (x1 : RtcpPacket) (r : List Int) (hr : gaT x0 x1 = some r) : CallOk Tryz.prog 49 [.ptr 0 0, RtcpPacket.av x1] (gaT.m x0 x1) (gaT.out x0 x1 r) := by
 unfold gaT at hr
 have hΓ := (gamL_cons gaI.ok (gamL_nil) : GamOk Tryz.prog _)
 refine cw Tryz.func49 rfl (by kernel_rfl) rfl rfl (by simp) fun _ _ _ => ?_
 cases h3 : x1 with
 | c0 y1c0 =>
   have hr := RtcpPacket.by0 h3 hr
   refine tq hΓ [4, 5] [1] ?_ (by simp; exact rr)
   refine tq hΓ [11] [5] ?_ (by simp; exact rr)
   refine AWp.cond (b := true) (by simp) (fun hb => ?_) (fun hb => ?_)
   ·obtain ⟨r1, h4, hr⟩ := Lb hr
    refine tl hΓ [] [11, 4, 0] ?_ (by simp [h4]; exact rr)
    obtain rfl := La hr
    exact fin_norm (by simp)
   ·cases hb

@[simp] noncomputable def gaT.S : Sp
  | [.ptr i0 0, a1], M => (rdQ M i0).bind fun c0 => some { av := .tup [], M := some (M.set i0 (.opq (wrO 119 5 ((gaT c0.bs (RtcpPacket.dec [a1])).getD dflt)))), obl := a1 = RtcpPacket.av (RtcpPacket.dec [a1]) ∧ c0 = wrO 119 5 c0.bs ∧ (gaT c0.bs (RtcpPacket.dec [a1])).isSome = true }
  | _, _ => none

theorem gaT.ok : SpecOk Tryz.prog 49 gaT.S := by
 intro l M out h
 unfold gaT.S at h
 split at h
 ·rename_i i0 a1
  obtain ⟨c0, hM0, h⟩ := bQ h
  cases h
  refine callOk_of fun ho => ?_
  obtain ⟨ox1, oc0, hs⟩ := ho
  generalize c0.bs = y0 at *
  generalize (RtcpPacket.dec [a1]) = x1 at *
  subst ox1
  subst oc0
  obtain ⟨r, hr⟩ := so1 hs
  simp only [hr, gd1]
  have q := Lh (M := M) [i0] (gaT.can y0 x1 r hr) (by simp) rfl (ix (by simp [hM0]) ixn)
  exact callOk_conv q trivial (by simp [into]) (by simp [frameOut]) (by simp [frameOut])
 ·cases h

@[simp] def gax.out (_x0 : List RtcpPacket) (r : ByteArray) : Out := { av := .lit (.string r), M := none }
def gax.fin (x0 : List RtcpPacket) (r : ByteArray) (σ : St) : Prop := finK (gax.out x0 r) [] σ.M (resA Tryz.ty σ.A σ.M Tryz.f16.results.toList)
theorem gax.can (x0 : List RtcpPacket) (r : ByteArray) (hr : gax x0 = some r) : CallOk Tryz.prog 16 [.sl (x0.map RtcpPacket.enc) .no] [] (gax.out x0 r) := by
 unfold gax at hr
 have hΓ := (gamL_cons gR.ok (gamL_cons gC.ok (gamL_cons gn.ok (gamL_cons gaR.Text.ok (gamL_cons gi.ok (gamL_cons gaR.U8.ok (gamL_cons gaG.ok (gamL_cons gaT.ok (gamL_nil)))))))) : GamOk Tryz.prog _)
 refine cw Tryz.func16 rfl (by kernel_rfl) rfl rfl (by simp) fun _ _ _ => ?_
 refine tq hΓ [] [] ?_
 refine AWp.then ⟨[⟨3, none, .ptr 0 0⟩, ⟨0, none, .sl (x0.map RtcpPacket.enc) .no⟩], [.opq (wrO 119 5 [])]⟩ (gaR.alloc rfl rfl rfl rfl (by kernel_rfl) rfl (dead := []) (by simp [exS])) ?_
 refine AWp.seq ?_
 refine tq hΓ [9, 10, 11] [0] ?_
 refine AWp.loopE (fun (s1 : Int × List Int) (γ1 : Unit) => ⟨[⟨9, none, .sl (x0.map RtcpPacket.enc) .no⟩, ⟨10, none, .n (lenL x0)⟩, ⟨11, none, .n s1.1⟩, ⟨3, none, .ptr 0 0⟩], [.opq (wrO 119 5 s1.2)]⟩) (fun (v1 : List Int) (γ1a : Unit) => ⟨[⟨3, none, .ptr 0 0⟩], [.opq (wrO 119 5 v1)]⟩) (gax.fin x0) hr () 1 (by simp) (fun s1 f γ1 hr => ?_) (fun v1 γ1a σ1 m1 hr hc => ?_) (fun _ h => h)
 ·unfold gax.loop1 at hr
  refine tq hΓ [12] [] ?_
  refine AWp.seq ?_
  refine AWp.cnd hr (by simp) (fun h14 hr => ?_) (fun h14 hr => ?_)
  ·refine AWp.skip ?_
   refine AWp.seq ?_
   refine AWp.block ?_
   obtain ⟨h15, hr⟩ := Lc hr
   refine tq hΓ [5] [12] ?_ (by simp [h14, h15]; exact rr)
   cases h16 : (nthI x0 s1.1) with
   | c0 y2c0 =>
     have hr := RtcpPacket.by0 h16 hr
     obtain ⟨r1, h17, hr⟩ := Lb hr
     refine tq hΓ [6, 7] [] ?_ (by simp [h17]; exact rr)
     refine AWp.then ⟨[⟨8, none, .ptr 1 0⟩, ⟨6, none, .lit (.int .u8 r1.1)⟩, ⟨7, none, .lit (.int .u8 r1.2)⟩, ⟨5, none, .iface 73 (.agg [.lit (.int .u32 y2c0.fZ), .lit (.int .u32 y2c0.fTo)])⟩, ⟨9, none, .sl (x0.map RtcpPacket.enc) .no⟩, ⟨10, none, .n (lenL x0)⟩, ⟨11, none, .n s1.1⟩, ⟨3, none, .ptr 0 0⟩], [.opq (wrO 119 5 s1.2), .opq (wrO 119 5 [])]⟩ (gaR.alloc rfl rfl rfl rfl (by kernel_rfl) rfl (dead := []) (by simp [exS])) ?_
     obtain ⟨r2, h18, hr⟩ := Lb hr
     refine tq hΓ [] [5] ?_ (by simp [h18]; exact rr)
     obtain ⟨r3, h19, hr⟩ := Lb hr
     refine tq hΓ [] [] ?_ (by simp [h19]; exact rr)
     obtain ⟨h20, hr⟩ := Lc hr
     obtain ⟨r4, h21, hr⟩ := Lb hr
     obtain ⟨h22, hr⟩ := Lc hr
     obtain ⟨r5, h23, hr⟩ := Lb hr
     obtain ⟨h24, hr⟩ := Lc hr
     obtain ⟨r6, h25, hr⟩ := Lb hr
     refine tl hΓ [] [8, 6, 7] ?_ (by simp [h20, h21, h22, h23, h24, h25]; exact rr)
     refine tl hΓ [11] [] ?_ (by simp; exact rr)
     obtain rfl := La hr
     exact Lk () 1 (by first | (simp; done) | simp [h14, h15, h16, h17, h18, h19, h20, h21, h22, h23, h24, h25])
  ·refine AWp.exit ?_
   obtain rfl := La hr
   exact Ln () 1 (by first | (simp; done) | simp [h14])
 ·refine AWp.conv hc ?_
  obtain ⟨h26, hr⟩ := Lc hr
  refine tq hΓ [2] [3] ?_ (by simp [h26]; exact rr)
  obtain rfl := La hr
  exact AWp.ret (Le (by simp))

@[simp] noncomputable def gax.S : Sp
  | [.sl e0 _], _ => some { av := .lit (.string ((gax (e0.map RtcpPacket.dec)).getD dflt)), M := none, obl := e0 = (e0.map RtcpPacket.dec).map RtcpPacket.enc ∧ (gax (e0.map RtcpPacket.dec)).isSome = true }
  | _, _ => none

theorem gax.ok : SpecOk Tryz.prog 16 gax.S := by
 intro l M out h
 unfold gax.S at h
 split at h
 ·rename_i e0 k0
  cases h
  refine callOk_of fun ho => ?_
  obtain ⟨ox0, hs⟩ := ho
  generalize (e0.map RtcpPacket.dec) = x0 at *
  subst ox0
  obtain ⟨r, hr⟩ := so1 hs
  simp only [hr, gd1]
  have q := Lh (M := M) [] (gax.can x0 r hr) (by simp) rfl ixn
  exact callOk_conv q trivial (by simp) (by simp [frameOut]) (by simp [frameOut])
 ·cases h
end Go.Proofs
end
section
namespace Go.Proofs
open Go.Ab
structure CfgOk (c : Tt) : Prop where
 frames : 1 ≤ c.fd ∧ c.fd ≤ 1024
 bytes : 1 ≤ c.fm ∧ c.fm ≤ 16777216
 age : 1 ≤ c.fq ∧ c.fq ≤ 1099511627776
 most : 1 ≤ c.fb ∧ c.fb ≤ 16777216
 guard : 1 ≤ c.fo ∧ c.fo ≤ 1024
def x0F (c : Tt) : RO := ⟨c.fd, c.fm, c.fq, c.fb, c.fo, [], ⟨c.fb, [], 0, false⟩, 0, 0⟩

theorem new20_ok {c : Tt} (h : CfgOk c) : gV c = some 0 ∧ ∃ P, gaK c = some (some P, 0) ∧ Rel P (x0F c) 0 0 := by
 obtain ⟨h1, h2, h3, h4, h5⟩ := h
 have hc : gV c = some 0 := by
  unfold gV
  rw [ltI_f (by omega), ltI_f (by omega), ltI_f (by omega), ltI_f (by omega), ltI_f (by omega), ltI_f (by omega), ltI_f (by omega), ltI_f (by omega), ltI_f (by omega), ltI_f (by omega)]
  rfl
 obtain ⟨s, e1, e2⟩ := new_ok (mo := c.fb) h4.1 h4.2
 refine ⟨hc, ⟨c, [], s, 0, 0⟩, ?_, ?_⟩
 ·unfold gaK
  rw [hc]
  simp only [Ld]
  rw [neI_f rfl, cond_false, e1]
  simp only [Ld, optC_some]
  rw [neI_f rfl, cond_false]
 ·exact ⟨rfl, h1, h2, h4, h5, ⟨.refl _, .nil, (fun f hf => by cases hf), (fun f hf => by cases hf), by simp [x0F]⟩, (fun f hf => by cases hf), (fun f hf => by cases hf),
   ⟨_, _, _, _, e2, rfl, fun y => ⟨Int.le_refl _, .inl (show (0 : Int) ≤ c.fb by omega)⟩, (fun i hi => by cases hi), fun i hi => ⟨rfl, rfl⟩⟩, ⟨rfl, by show (0 : Int) ≤ 0; decide, by show (0 : Int) ≤ 1099511627776; decide⟩,
   ⟨rfl, by show (0 : Int) ≤ 0; decide, by show (0 : Int) + (tot [] : Nat) ≤ (0 : Nat); decide⟩, by simp [x0F], by decide, by decide⟩

/-! ### The first example -/

theorem config_ok (a b : Int) : ∃ c, gaw a b = some c ∧ CfgOk c ∧ c.fd ≤ 8 ∧ c.fq ≤ 32 := by
 refine ⟨⟨1 + a % 8, 16 + b % 64, 1 + shrI .i64 a 3 % 32, 1 + shrI .i64 b 6 % 32, 1 + shrI .i64 a 8 % 4⟩, ?_, ⟨?_, ?_, ?_, ?_, ?_⟩, ?_, ?_⟩
 ·unfold gaw
  rw [Lf (show NonN 3 from by unfold NonN; decide), Lf (show NonN 6 from by unfold NonN; decide), Lf (show NonN 8 from by unfold NonN; decide),
   and_mask' (j := 3) (by omega) a 7 (by decide), and_mask' (j := 6) (by omega) b 63 (by decide), and_mask' (j := 5) (by omega) (shrI .i64 a 3) 31 (by decide), and_mask' (j := 5) (by omega) (shrI .i64 b 6) 31 (by decide),
   and_mask' (j := 2) (by omega) (shrI .i64 a 8) 3 (by decide)]
  simp only [show (2 : Int) ^ 3 = 8 from by decide, show (2 : Int) ^ 6 = 64 from by decide, show (2 : Int) ^ 5 = 32 from by decide, show (2 : Int) ^ 2 = 4 from by decide]
  rw [addI_n (by omega) (by omega), addI_n (by omega) (by omega), addI_n (by omega) (by omega), addI_n (by omega) (by omega), addI_n (by omega) (by omega)]
 all_goals (simp only; omega)

theorem begin_ok {c : Tt} (h : CfgOk c) : ∃ P, gaM c = some (⟨P, x0F c, 0, 0⟩, true) ∧ Rel P (x0F c) 0 0 := by
 obtain ⟨_, P, e, r⟩ := new20_ok h
 refine ⟨P, ?_, r⟩
 unfold gaM
 rw [e]
 simp only [Ld, optC_some]
 rw [eqI_t rfl]
 rfl
end Go.Proofs
end

import Derived.Test.YtoiieebljbhpbaaGreatDoorTs
import Derived.Test.YtoiieebljbhpbaaGreatDoorM03
import Derived.Test.YtoiieebljbhpbaaGreatDoorM08
import Derived.Test.YtoiieebljbhpbaaGreatDoorM09
import Derived.Test.YtoiieebljbhpbaaGreatDoorTy
import Derived.Test.YtoiieebljbhpbaaGreatDoorM15
import Derived.Test.YtoiieebljbhpbaaGreatDoorM13
import Derived.Test.YtoiieebljbhpbaaGreatDoorM04
import Derived.Test.YtoiieebljbhpbaaGreatDoorXb
import Derived.Test.YtoiieebljbhpbaaGreatDoorXa
import Derived.Test.YtoiieebljbhpbaaGreatDoorM19
section
namespace Go.Proofs
open Go.Ab
noncomputable def gg.loop1 (x0 : List Td) (s1 : Int × (List (Int × Ta)) × Int × (List (Tc × Te)) × (List (Tb × Tf)) × (List (Int × Tg))) : Option (Fl (Int × (List (Int × Ta)) × Int × (List (Tc × Te)) × (List (Tb × Tf)) × (List (Int × Tg))) (Fl ((List (Int × Ta)) × Int × (List (Tc × Te)) × (List (Tb × Tf)) × (List (Int × Tg))) Bool)) :=
 bif (qaf (ltI s1.1 (qat x0)) (ltI s1.1 60) false) then (
  need (InB s1.1 (qat x0)) <|
  ((gap (nthI x0 s1.1))).bind fun r3 =>
  ((gl (Th.mk (Tp.mk s1.2.1 s1.2.2.1) s1.2.2.2.1 s1.2.2.2.2.1 s1.2.2.2.2.2) r3)).bind fun r4 =>
  some (.go ((addI .i64 s1.1 1), r4.2.2.fd.fe, r4.2.2.fd.fj, r4.2.2.fb, r4.2.2.fg, r4.2.2.fh))
 ) else (
   some (.out (.go (s1.2.1, s1.2.2.1, s1.2.2.2.1, s1.2.2.2.2.1, s1.2.2.2.2.2)))
 )
noncomputable def gg.loop3 (x1 : Int) (r5 : List Int) (v1 : (List (Int × Ta)) × Int × (List (Tc × Te)) × (List (Tb × Tf)) × (List (Int × Tg))) (s3 : Int) : Option (Fl Int (Fl Unit (Fl Int (Fl Unit Bool)))) :=
 bif (ltI s3 (qat r5)) then (
  need (InB s3 (qat r5)) <|
  ((gD (Tp.mk v1.1 v1.2.1) (nthI r5 s3) (qaq .and .i64 x1 15))).bind fun r6 =>
  bif (notB r6) then (
   some (.out (.out (.out (.out false))))
  ) else (
    some (.go (addI .i64 s3 1))
  )
 ) else (
   some (.out (.go ()))
 )
noncomputable def gg.loop2 (x1 : Int) (v1 : (List (Int × Ta)) × Int × (List (Tc × Te)) × (List (Tb × Tf)) × (List (Int × Tg))) (s2 : Int) : Option (Fl Int (Fl Unit Bool)) :=
 bif (ltI s2 4) then (
  ((gh (Th.mk (Tp.mk v1.1 v1.2.1) v1.2.2.1 v1.2.2.2.1 v1.2.2.2.2) (Tc.mk (qaq .and .i64 x1 15) s2))).bind fun r5 =>
  ((loopF (gg.loop3 x1 r5 v1) 0).bind fun f => flC f fun (_v3 : Unit) =>
    some (.go (addI .i64 s2 1))
  )
 ) else (
   some (.out (.go ()))
 )
noncomputable def gg.loop4 (x1 : Int) (r9 : List Tb) (s4 : Int) : Option (Fl Int (Fl Unit Bool)) :=
 bif (ltI s4 (qat r9)) then (
  need (InB s4 (qat r9)) <|
  bif (qaf (eqI ((nthI r9 s4).fu) (qaq .and .i64 x1 15)) true (eqI ((nthI r9 s4).fOf.fc) (qaq .and .i64 x1 15))) then (
   some (.out (.out false))
  ) else (
    some (.go (addI .i64 s4 1))
  )
 ) else (
   some (.out (.go ()))
 )
noncomputable def gg (x0 : List Td) (x1 : Int) : Option Bool :=
 (gaH).bind fun r1 =>
 bif (notB r1) then (
  some false
 ) else (
   (gaf).bind fun r2 =>
   ((loopF (gg.loop1 x0) (0, r2.fd.fe, r2.fd.fj, r2.fb, r2.fg, r2.fh)).bind fun f => flC f fun (v1 : (List (Int × Ta)) × Int × (List (Tc × Te)) × (List (Tb × Tf)) × (List (Int × Tg))) =>
     ((loopF (gg.loop2 x1 v1) 0).bind fun f => flC f fun (_v2 : Unit) =>
       ((gU (Tp.mk v1.1 v1.2.1) (qaq .and .i64 x1 15))).bind fun r7 =>
       ((gl (Th.mk (Tp.mk v1.1 v1.2.1) v1.2.2.1 v1.2.2.2.1 v1.2.2.2.2) (Td.mk 2 ⟨#[]⟩ ⟨#[]⟩ (qaq .and .i64 x1 15) 0 0 0 false false []))).bind fun r8 =>
       bif (neB (eqI r8.2.1 0) r7.2) then (
        some false
       ) else (
         ((gj r8.2.2)).bind fun r9 =>
         ((loopF (gg.loop4 x1 r9) 0).bind fun f => flC f fun (_v4 : Unit) =>
           some true
         )
       )
     )
   )
 )
end Go.Proofs
end
section
namespace Go.Proofs
open Go.Ab
@[simp] def gap.out (_x0 : Td) (r : Td) : Out := { av := .agg [.lit (.int .i64 r.fk), .lit (.string r.fm), .lit (.string r.fp), .lit (.int .i64 r.fc), .lit (.int .i64 r.fOf), .lit (.int .i64 r.ff), .lit (.int .i64 r.fo), .lit (.bool r.fOn), .lit (.bool r.fq), .sl (r.fa.map (eNum .u32)) .no], M := none }
def gap.fin (x0 : Td) (r : Td) (σ : St) : Prop := finK (gap.out x0 r) [] σ.M (resA Tryz.ty σ.A σ.M Tryz.f12.results.toList)
set_option maxHeartbeats 4000000 in
set_option maxRecDepth 100000 in
theorem gap.can (x0 : Td) (r : Td) (hr : gap x0 = some r) : qao Tryz.prog 12 [.agg [.lit (.int .i64 x0.fk), .lit (.string x0.fm), .lit (.string x0.fp), .lit (.int .i64 x0.fc), .lit (.int .i64 x0.fOf), .lit (.int .i64 x0.ff), .lit (.int .i64 x0.fo), .lit (.bool x0.fOn), .lit (.bool x0.fq), .sl (x0.fa.map (eNum .u32)) .no]] [] (gap.out x0 r) := by
 unfold gap at hr;have hΓ := (qab gax.ok (qae) : qbc Tryz.prog _);refine cw Tryz.func12 rfl (by kernel_rfl) rfl rfl (by simp) fun _ _ _ => ?_;refine tq hΓ [1, 2] [0] ?_;obtain ⟨r1, h5, hr⟩ := Lb hr;obtain ⟨r2, h6, hr⟩ := Lb hr;refine td hΓ [] [] [] [(false, []), (false, []), (false, []), (false, []), (false, []), (false, []), (false, []), (true, []), (false, []), (true, [])] (by simp [h5, h6]; exact rr) ?_;refine AWp.meetF (fun (v1 : Td) (γ1 : Unit) => ⟨[⟨1, none, .ptr 0 0⟩, ⟨2, none, .ptr 1 0⟩], [.blk v1.enc, .blk [.n 0, .s ⟨#[]⟩, .s ⟨#[]⟩, .n 0, .n 0, .n 0, .n 0, .b false, .b false, .sl [] .full]]⟩) (gap.fin x0) hr (fun f hr => ?_) (fun v1 γ1 hr => ?_) (fun _ h => h)
 ·refine tq hΓ [14] [] ?_ (by simp; exact rr);refine AWp.cnd hr (by simp) (fun h7 hr => ?_) (fun h7 hr => ?_)
  ·obtain ⟨h8, hr⟩ := Lg hr;refine tl hΓ [] [14] ?_ (by simp [h7, h8]; exact rr);obtain rfl := La hr;exact Lp () 2 (by first | (simp; done) | simp [h5, h6, h7, h8])
  ·refine AWp.skip ?_;obtain rfl := La hr;exact Lp () 2 (by first | (simp; done) | simp [h5, h6, h7])
 ·refine tq hΓ [] [1] ?_ (by simp; exact rr);obtain rfl := La hr;exact AWp.ret (Ld (by simp))
@[simp] noncomputable def gap.S : Sp
  | [.agg e0], _ => (fun (y0 : Td) => (fun (r : Td) => some { av := .agg [.lit (.int .i64 (r.fk)), .lit (.string (r.fm)), .lit (.string (r.fp)), .lit (.int .i64 (r.fc)), .lit (.int .i64 (r.fOf)), .lit (.int .i64 (r.ff)), .lit (.int .i64 (r.fo)), .lit (.bool (r.fOn)), .lit (.bool (r.fq)), .sl ((r.fa).map (eNum .u32)) .no], M := none, obl := WeakL e0 (Td.enc y0) ∧ (gap y0).isSome = true }) ((gap y0).getD dflt)) (Td.dec e0)
  | _, _ => none
set_option maxHeartbeats 1000000 in
theorem gap.ok : qap Tryz.prog 12 gap.S := by
 intro l M out h;unfold gap.S at h;split at h
 ·rename_i e0
  try dsimp only at h
  cases h;refine qad fun ho => ?_;obtain ⟨ox0, hs⟩ := ho;generalize (Td.dec e0) = x0 at *
  obtain ⟨r, hr⟩ := so1 hs;simp only [hr, gd1];have q := Lf (M := M) [] (gap.can x0 r hr) (by simp) rfl ixn;exact qac q trivial (by simp; exact ox0) (by simp [qaa]) (by simp [qaa])
 ·cases h
end Go.Proofs
end
section
namespace Go.Proofs
open Go.Ab
@[simp] def gg.out (_x0 : List Td) (_x1 : Int) (r : Bool) : Out := { av := .lit (.bool r), M := none }
def gg.fin (x0 : List Td) (x1 : Int) (r : Bool) (σ : St) : Prop := finK (gg.out x0 x1 r) [] σ.M (resA Tryz.ty σ.A σ.M Tryz.f3.results.toList)
set_option maxHeartbeats 4000000 in
set_option maxRecDepth 100000 in
theorem gg.can (x0 : List Td) (x1 : Int) (r : Bool) (hr : gg x0 x1 = some r) : qao Tryz.prog 3 [.sl (x0.map Td.enc) .no, .lit (.int .i64 x1)] [] (gg.out x0 x1 r) := by
 unfold gg at hr;have hΓ := (qab gl.ok (qab gj.ok (qab gh.ok (qab gU.ok (qab gD.ok (qab gaf.ok (qab gap.ok (qab gaH.ok (qae)))))))) : qbc Tryz.prog _);refine cw Tryz.func3 rfl (by kernel_rfl) rfl rfl (by simp) fun _ _ _ => ?_;refine tq hΓ [] [] ?_;refine AWp.seq ?_;obtain ⟨r1, h21, hr⟩ := Lb hr;refine tq hΓ [17] [] ?_ (by simp [h21]; exact rr);refine AWp.cnd hr (by simp) (fun h22 hr => ?_) (fun h22 hr => ?_)
 ·refine tq hΓ [4] [17, 0, 1] ?_ (by simp [h22]; exact rr);obtain rfl := La hr;exact AWp.ret (Ld (by simp))
 ·refine AWp.skip ?_;obtain ⟨r2, h23, hr⟩ := Lb hr;refine tq hΓ [5] [17] ?_ (by simp [h22, h23]; exact rr);refine AWp.seq ?_;refine tq hΓ [27] [] ?_ (by simp; exact rr);refine AWp.cond (b := false) (by simp) (fun hb => ?_) (fun hb => ?_)
  ·cases hb
  ·refine AWp.skip ?_;refine AWp.seq ?_;refine tq hΓ [6] [27] ?_ (by simp; exact rr);refine AWp.loopE (fun (s1 : Int × (List (Int × Ta)) × Int × (List (Tc × Te)) × (List (Tb × Tf)) × (List (Int × Tg))) (γ1 : Unit) => ⟨[⟨6, none, .n s1.1⟩, ⟨5, none, .ptr 5 0⟩, ⟨0, none, .sl (x0.map Td.enc) .no⟩, ⟨1, none, .n x1⟩], [.mapo (qas (kI .i64) (vA Ta.enc) s1.2.1), .blk [.mp 0, .n s1.2.2.1], .mapo (qas (vA Tc.enc) (vA Te.enc) s1.2.2.2.1), .mapo (qas (vA Tb.enc) (vA Tf.enc) s1.2.2.2.2.1), .mapo (qas (kI .u32) (vA Tg.enc) s1.2.2.2.2.2), .blk [.ptr 1 0, .mp 2, .mp 3, .mp 4]]⟩) (fun (v1 : (List (Int × Ta)) × Int × (List (Tc × Te)) × (List (Tb × Tf)) × (List (Int × Tg))) (γ1a : Unit) => ⟨[⟨5, none, .ptr 5 0⟩, ⟨1, none, .n x1⟩], [.mapo (qas (kI .i64) (vA Ta.enc) v1.1), .blk [.mp 0, .n v1.2.1], .mapo (qas (vA Tc.enc) (vA Te.enc) v1.2.2.1), .mapo (qas (vA Tb.enc) (vA Tf.enc) v1.2.2.2.1), .mapo (qas (kI .u32) (vA Tg.enc) v1.2.2.2.2), .blk [.ptr 1 0, .mp 2, .mp 3, .mp 4]]⟩) (gg.fin x0 x1) hr () 6 (by simp) (fun s1 f γ1 hr => ?_) (fun v1 γ1a σ1 m1 hr hc => ?_) (fun _ h => h)
   ·unfold gg.loop1 at hr;refine AWp.seq ?_;refine tq hΓ [35] [] ?_ (by simp; exact rr);refine AWp.cnd hr (by simp) (fun h24 hr => ?_) (fun h24 hr => ?_)
    ·refine AWp.skip ?_;refine AWp.seq ?_;refine AWp.block ?_;obtain ⟨h25, hr⟩ := Lg hr;obtain ⟨r3, h26, hr⟩ := Lb hr;obtain ⟨r4, h27, hr⟩ := Lb hr;refine tl hΓ [] [35] ?_ (by simp [h24, h25, h26, h27]; exact rr);refine tl hΓ [6] [] ?_ (by simp; exact rr);obtain rfl := La hr;exact Lq () 6 (by first | (simp; done) | simp [h21, h22, h23, h24, h25, h26, h27])
    ·refine AWp.exit ?_;obtain rfl := La hr;exact Ln () 6 (by first | (simp; done) | simp [h21, h22, h23, h24])
   ·refine AWp.conv hc ?_;refine tq hΓ [1] [] ?_ (by simp; exact rr);refine AWp.seq ?_;refine tq hΓ [47] [] ?_ (by simp; exact rr);refine AWp.loopE (fun (s2 : Int) (γ2 : Unit) => ⟨[⟨47, none, .n s2⟩, ⟨1, none, .n (qaq .and .i64 x1 15)⟩, ⟨5, none, .ptr 5 0⟩], [.mapo (qas (kI .i64) (vA Ta.enc) v1.1), .blk [.mp 0, .n v1.2.1], .mapo (qas (vA Tc.enc) (vA Te.enc) v1.2.2.1), .mapo (qas (vA Tb.enc) (vA Tf.enc) v1.2.2.2.1), .mapo (qas (kI .u32) (vA Tg.enc) v1.2.2.2.2), .blk [.ptr 1 0, .mp 2, .mp 3, .mp 4]]⟩) (fun (v2 : Unit) (γ2a : Unit) => ⟨[⟨1, none, .n (qaq .and .i64 x1 15)⟩, ⟨5, none, .ptr 5 0⟩], [.mapo (qas (kI .i64) (vA Ta.enc) v1.1), .blk [.mp 0, .n v1.2.1], .mapo (qas (vA Tc.enc) (vA Te.enc) v1.2.2.1), .mapo (qas (vA Tb.enc) (vA Tf.enc) v1.2.2.2.1), .mapo (qas (kI .u32) (vA Tg.enc) v1.2.2.2.2), .blk [.ptr 1 0, .mp 2, .mp 3, .mp 4]]⟩) (gg.fin x0 x1) hr () 6 (by simp) (fun s2 f γ2 hr => ?_) (fun v2 γ2a σ1 m1 hr hc => ?_) (fun _ h => h)
    ·unfold gg.loop2 at hr;refine tq hΓ [48] [] ?_ (by simp; exact rr);refine AWp.seq ?_;refine AWp.cnd hr (by simp) (fun h28 hr => ?_) (fun h28 hr => ?_)
     ·refine AWp.skip ?_;refine AWp.seq ?_;refine AWp.block ?_;refine tq hΓ [7] [48] ?_ (by simp [h28]; exact rr);obtain ⟨r5, h29, hr⟩ := Lb hr;refine tq hΓ [54, 55, 56] [7] ?_ (by simp [h29]; exact rr);refine AWp.loopE (fun (s3 : Int) (γ3 : Unit) => ⟨[⟨54, none, .sl (r5.map (eNum .i64)) .no⟩, ⟨55, none, .n (qat r5)⟩, ⟨56, none, .n s3⟩, ⟨47, none, .n s2⟩, ⟨1, none, .n (qaq .and .i64 x1 15)⟩, ⟨5, none, .ptr 5 0⟩], [.mapo (qas (kI .i64) (vA Ta.enc) v1.1), .blk [.mp 0, .n v1.2.1], .mapo (qas (vA Tc.enc) (vA Te.enc) v1.2.2.1), .mapo (qas (vA Tb.enc) (vA Tf.enc) v1.2.2.2.1), .mapo (qas (kI .u32) (vA Tg.enc) v1.2.2.2.2), .blk [.ptr 1 0, .mp 2, .mp 3, .mp 4]]⟩) (fun (v3 : Unit) (γ3a : Unit) => ⟨[⟨47, none, .n s2⟩, ⟨1, none, .n (qaq .and .i64 x1 15)⟩, ⟨5, none, .ptr 5 0⟩], [.mapo (qas (kI .i64) (vA Ta.enc) v1.1), .blk [.mp 0, .n v1.2.1], .mapo (qas (vA Tc.enc) (vA Te.enc) v1.2.2.1), .mapo (qas (vA Tb.enc) (vA Tf.enc) v1.2.2.2.1), .mapo (qas (kI .u32) (vA Tg.enc) v1.2.2.2.2), .blk [.ptr 1 0, .mp 2, .mp 3, .mp 4]]⟩) (QRr (gg.fin x0 x1)) hr () 6 (by simp) (fun s3 f γ3 hr => ?_) (fun v3 γ3a σ1 m1 hr hc => ?_) (fun _ h => QRr_ret h)
      ·unfold gg.loop3 at hr;refine tq hΓ [57] [] ?_ (by simp; exact rr);refine AWp.seq ?_;refine AWp.cnd hr (by simp) (fun h30 hr => ?_) (fun h30 hr => ?_)
       ·refine AWp.skip ?_;refine AWp.seq ?_;refine AWp.block ?_;obtain ⟨h31, hr⟩ := Lg hr;refine tq hΓ [9] [57] ?_ (by simp [h30, h31]; exact rr);obtain ⟨r6, h32, hr⟩ := Lb hr;refine tq hΓ [67] [9] ?_ (by simp [h32]; exact rr);refine AWp.cnd hr (by simp) (fun h33 hr => ?_) (fun h33 hr => ?_)
        ·refine tq hΓ [4] [67, 54, 55, 56, 47, 1, 5] ?_ (by simp [h33]; exact rr);refine AWp.ret ?_;obtain rfl := La hr;refine round_ret ?_;refine ⟨_, rfl, ?_⟩;refine Ld ?_;simp
        ·refine AWp.skip ?_;refine tl hΓ [56] [67] ?_ (by simp [h33]; exact rr);obtain rfl := La hr;exact Lq () 6 (by first | (simp; done) | simp [h21, h22, h23, h28, h29, h30, h31, h32, h33])
       ·refine AWp.exit ?_;obtain rfl := La hr;exact Ln () 6 (by first | (simp; done) | simp [h21, h22, h23, h28, h29, h30])
      ·refine AWp.conv hc ?_;refine tl hΓ [47] [] ?_ (by simp; exact rr);obtain rfl := La hr;exact Lq () 6 (by first | (simp; done) | simp [h21, h22, h23, h28, h29])
     ·refine AWp.exit ?_;obtain rfl := La hr;exact Ln () 6 (by first | (simp; done) | simp [h21, h22, h23, h28])
    ·refine AWp.conv hc ?_;obtain ⟨r7, h34, hr⟩ := Lb hr;refine tq hΓ [11] [] ?_ (by simp [h34]; exact rr);refine AWp.seq ?_;obtain ⟨r8, h35, hr⟩ := Lb hr;refine tq hΓ [13] [] ?_ (by simp [h35]; exact rr);refine tq hΓ [89] [13, 11] ?_ (by simp; exact rr);refine AWp.cnd hr (by simp) (fun h36 hr => ?_) (fun h36 hr => ?_)
     ·refine tq hΓ [4] [89, 1, 5] ?_ (by simp [h36]; exact rr);obtain rfl := La hr;exact AWp.ret (Ld (by simp))
     ·refine AWp.skip ?_;refine AWp.seq ?_;obtain ⟨r9, h37, hr⟩ := Lb hr;refine tq hΓ [91, 92, 93] [89, 5] ?_ (by simp [h36, h37]; exact rr);refine AWp.loopE (fun (s4 : Int) (γ4 : Unit) => ⟨[⟨91, none, .sl (r9.map Tb.enc) .no⟩, ⟨92, none, .n (qat r9)⟩, ⟨93, none, .n s4⟩, ⟨1, none, .n (qaq .and .i64 x1 15)⟩], [.mapo (qas (kI .i64) (vA Ta.enc) r8.2.2.fd.fe), .blk [.mp 0, .n r8.2.2.fd.fj], .mapo (qas (vA Tc.enc) (vA Te.enc) r8.2.2.fb), .mapo (qas (vA Tb.enc) (vA Tf.enc) r8.2.2.fg), .mapo (qas (kI .u32) (vA Tg.enc) r8.2.2.fh), .blk [.ptr 1 0, .mp 2, .mp 3, .mp 4], .blk [.n r7.1.fN, .s r7.1.fp, .s r7.1.fm]]⟩) (fun (v4 : Unit) (γ4a : Unit) => ⟨[], [.mapo (qas (kI .i64) (vA Ta.enc) r8.2.2.fd.fe), .blk [.mp 0, .n r8.2.2.fd.fj], .mapo (qas (vA Tc.enc) (vA Te.enc) r8.2.2.fb), .mapo (qas (vA Tb.enc) (vA Tf.enc) r8.2.2.fg), .mapo (qas (kI .u32) (vA Tg.enc) r8.2.2.fh), .blk [.ptr 1 0, .mp 2, .mp 3, .mp 4], .blk [.n r7.1.fN, .s r7.1.fp, .s r7.1.fm]]⟩) (gg.fin x0 x1) hr () 7 (by simp) (fun s4 f γ4 hr => ?_) (fun v4 γ4a σ1 m1 hr hc => ?_) (fun _ h => h)
      ·unfold gg.loop4 at hr;refine tq hΓ [94] [] ?_ (by simp; exact rr);refine AWp.seq ?_;refine AWp.cnd hr (by simp) (fun h38 hr => ?_) (fun h38 hr => ?_)
       ·refine AWp.skip ?_;refine AWp.seq ?_;refine AWp.block ?_;obtain ⟨h39, hr⟩ := Lg hr;refine tq hΓ [15] [94] ?_ (by simp [h38, h39]; exact rr);refine tq hΓ [107] [15] ?_ (by simp; exact rr);refine AWp.cnd hr (by simp) (fun h40 hr => ?_) (fun h40 hr => ?_)
        ·refine tq hΓ [4] [107, 91, 92, 93, 1] ?_ (by simp [h40]; exact rr);refine AWp.ret ?_;obtain rfl := La hr;refine round_ret ?_;refine Ld ?_;simp
        ·refine AWp.skip ?_;refine tl hΓ [93] [107] ?_ (by simp [h40]; exact rr);obtain rfl := La hr;exact Lq () 7 (by first | (simp; done) | simp [h21, h22, h23, h34, h35, h36, h37, h38, h39, h40])
       ·refine AWp.exit ?_;obtain rfl := La hr;exact Ln () 7 (by first | (simp; done) | simp [h21, h22, h23, h34, h35, h36, h37, h38])
      ·refine AWp.conv hc ?_;refine tq hΓ [4] [] ?_ (by simp; exact rr);obtain rfl := La hr;exact AWp.ret (Ld (by simp))
end Go.Proofs
end

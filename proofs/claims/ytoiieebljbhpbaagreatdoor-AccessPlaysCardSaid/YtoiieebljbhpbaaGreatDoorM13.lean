import Derived.Test.YtoiieebljbhpbaaGreatDoorTs
import Derived.Test.YtoiieebljbhpbaaGreatDoorM15
import Derived.Test.YtoiieebljbhpbaaGreatDoorM11
import Derived.Test.YtoiieebljbhpbaaGreatDoorM03
import Derived.Test.YtoiieebljbhpbaaGreatDoorM08
import Derived.Test.YtoiieebljbhpbaaGreatDoorTy
section
namespace Go.Proofs
open Go.Ab
noncomputable def gas (x0 : Int) : Option ByteArray :=
 bif (eqI x0 1) then (
  some ⟨#[114]⟩
 ) else (
   bif (eqI x0 2) then (
    some ⟨#[112]⟩
   ) else (
     bif (eqI x0 3) then (
      some ⟨#[112, 116, 115]⟩
     ) else (
       bif (eqI x0 4) then (
        some ⟨#[112, 116]⟩
       ) else (
         bif (eqI x0 5) then (
          some ⟨#[112, 111, 116, 108]⟩
         ) else (
           bif (eqI x0 6) then (
            some ⟨#[112, 111, 116]⟩
           ) else (
             bif (eqI x0 7) then (
              some ⟨#[112, 116, 98]⟩
             ) else (
               bif (eqI x0 8) then (
                some ⟨#[112, 111, 116, 98]⟩
               ) else (
                 some ⟨#[]⟩
               )
             )
           )
         )
       )
     )
   )
 )
noncomputable def gC.loop1 (x1 : Int) (r1 : ByteArray) (s1 : Nat) : Option (Fl Nat (Fl Unit Bool)) :=
 bif (nextB r1 s1) then (
  bif (eqI (runeS r1 s1) x1) then (
   some (.out (.out true))
  ) else (
    some (.go (stepS r1 s1))
  )
 ) else (
   some (.out (.go ()))
 )
noncomputable def gC (x0 : Int) (x1 : Int) : Option Bool :=
 ((gas x0)).bind fun r1 =>
 ((loopF (gC.loop1 x1 r1) 0).bind fun f => flC f fun (_v1 : Unit) =>
   some false
 )
noncomputable def gao (x0 : Int) : Option Bool :=
 some (pickB (leqI 0 x0) (leqI x0 65535) false)
noncomputable def gv (x0 : Tc) : Option Bool :=
 ((
  ((
   ((gC x0.fm 114)).bind fun r1 =>
   need (Under (notB r1) true (CatB x0.fk x0.fo)) <|
   bif (pickB (notB r1) (neS (catS x0.fk x0.fo) ⟨#[]⟩) false) then (
    some (.go true)
   ) else (
     ((gC x0.fm 112)).bind fun r2 =>
     bif (pickB (notB r2) (neI x0.fc 0) false) then (
      some (.go true)
     ) else (
       ((gC x0.fm 111)).bind fun r3 =>
       bif (pickB (notB r3) (neI x0.fOf 0) false) then (
        some (.go true)
       ) else (
         ((gC x0.fm 116)).bind fun r4 =>
         some (.go (pickB (notB r4) (neI x0.ff 0) false))
       )
     )
   )
   : Option (Fl Bool (Fl Unit Bool))).bind fun f => flC f fun (v2 : Bool) =>
   bif v2 then (
    some (.out false)
   ) else (
     ((
      ((gC x0.fm 108)).bind fun r5 =>
      bif (pickB (notB r5) (neI x0.fp 0) false) then (
       some (.go true)
      ) else (
        ((gC x0.fm 98)).bind fun r6 =>
        bif (pickB (notB r6) x0.fOn false) then (
         some (.go true)
        ) else (
          ((gC x0.fm 115)).bind fun r7 =>
          some (.go (pickB (notB r7) (pickB x0.fq true (ltI 0 (lenL x0.fb))) false))
        )
      )
      : Option (Fl Bool (Fl Unit Bool))).bind fun f => flC f fun (v3 : Bool) =>
      bif v3 then (
       some (.out false)
      ) else (
        some (.go ())
      )
     )
   )
  )
  : Option (Fl Unit Bool)).bind fun f => flC f fun (_v1 : Unit) =>
  some true
 )
noncomputable def gg.loop2 (x0 : Tc) (s1 : Int) (s2 : Int) : Option (Fl Int (Fl Unit (Fl Int (Fl Unit Int)))) :=
 bif (ltI s2 (lenL (cutL x0.fb 0 s1))) then (
  need (InB s2 (lenL (cutL x0.fb 0 s1))) <|
  bif (eqI (nthI x0.fb s1) (nthI (cutL x0.fb 0 s1) s2)) then (
   some (.out (.out (.out (.out 10))))
  ) else (
    some (.go (addI .i64 s2 1))
  )
 ) else (
   some (.out (.go ()))
 )
noncomputable def gg.loop1 (x0 : Tc) (s1 : Int) : Option (Fl Int (Fl Unit Int)) :=
 bif (ltI s1 (lenL x0.fb)) then (
  need (InB s1 (lenL x0.fb)) <|
  need (CutB 0 s1 (lenL x0.fb)) <|
  ((loopF (gg.loop2 x0 s1) 0).bind fun f => flC f fun (_v2 : Unit) =>
    some (.go (addI .i64 s1 1))
  )
 ) else (
   some (.out (.go ()))
 )
noncomputable def gg (x0 : Tc) : Option Int :=
 bif (pickB (pickB (ltI (lenL x0.fb) 1) true (ltI 3 (lenL x0.fb))) true (pickB (ltI 1 (lenL x0.fb)) (notB x0.fq) false)) then (
  some 5
 ) else (
   ((loopF (gg.loop1 x0) 0).bind fun f => flC f fun (_v1 : Unit) =>
     some 0
   )
 )
noncomputable def gP (x0 : Tc) : Option Int :=
 ((gas x0.fm)).bind fun r1 =>
 bif (eqS r1 ⟨#[]⟩) then (
  some 3
 ) else (
   ((gv x0)).bind fun r2 =>
   bif (notB r2) then (
    some 2
   ) else (
     ((gao x0.fc)).bind fun r3 =>
     need (Under (notB r3) false ((gao x0.fOf).isSome = true)) <|
     bif (pickB (pickB (pickB (pickB (pickB (notB r3) true (notB ((gao x0.fOf).getD dflt))) true (ltI x0.ff 0)) true (leqI 4 x0.ff)) true (ltI x0.fp 0)) true (leqI 3 x0.fp)) then (
      some 5
     ) else (
       need (Under (eqI x0.fm 1) true ((gB x0.fk).isSome = true)) <|
       need (Under (neI ((gB x0.fk).getD dflt) 0) false (Under (eqI x0.fm 1) true ((gB x0.fo).isSome = true))) <|
       bif (pickB (eqI x0.fm 1) (pickB (neI ((gB x0.fk).getD dflt) 0) true (neI ((gB x0.fo).getD dflt) 0)) false) then (
        some 6
       ) else (
         bif (eqI x0.fm 3) then (
          ((gg x0)).bind fun r4 =>
          some r4
         ) else (
           some 0
         )
       )
     )
   )
 )
end Go.Proofs
end
section
namespace Go.Proofs
open Go.Ab
noncomputable def gQ.loop1 (x0 : Tl) (x1 : Int) (s1 : Int) : Option (Fl Int (Fl Unit (Ta × Bool))) :=
 bif (ltI s1 (lenL x0.fL)) then (
  need (InB s1 (lenL x0.fL)) <|
  bif (eqI ((nthI x0.fL s1).fN) x1) then (
   some (.out (.out ((Ta.mk ((nthI x0.fL s1).fN) ((nthI x0.fL s1).fo) ((nthI x0.fL s1).fk)), true)))
  ) else (
    some (.go (addI .i64 s1 1))
  )
 ) else (
   some (.out (.go ()))
 )
noncomputable def gQ (x0 : Tl) (x1 : Int) : Option (Ta × Bool) :=
 ((loopF (gQ.loop1 x0 x1) 0).bind fun f => flC f fun (_v1 : Unit) =>
   some ((Ta.mk 0 ⟨#[]⟩ ⟨#[]⟩), false)
 )
noncomputable def gak.loop1 (x0 : Tl) (x1 : ByteArray) (s1 : Int × List Ta) : Option (Fl (Int × List Ta) (Fl (List Ta) (List Ta))) :=
 bif (ltI s1.1 (lenL x0.fL)) then (
  need (InB s1.1 (lenL x0.fL)) <|
  ((gF ((nthI x0.fL s1.1).fk))).bind fun r1 =>
  ((gF x1)).bind fun r2 =>
  bif (eqS r1 r2) then (
   need (AppB (lenL s1.2) 1 40) <|
   some (.go ((addI .i64 s1.1 1), (appL s1.2 [(Ta.mk ((nthI x0.fL s1.1).fN) ((nthI x0.fL s1.1).fo) ((nthI x0.fL s1.1).fk))])))
  ) else (
    some (.go ((addI .i64 s1.1 1), s1.2))
  )
 ) else (
   some (.out (.go s1.2))
 )
noncomputable def gak (x0 : Tl) (x1 : ByteArray) : Option (List Ta) :=
 ((loopF (gak.loop1 x0 x1) (0, [])).bind fun f => flC f fun (v1 : List Ta) =>
   some v1
 )
noncomputable def gY.loop1 (x0 : Tl) (s1 : Int × List ByteArray) : Option (Fl (Int × List ByteArray) (Fl (List ByteArray) (List ByteArray))) :=
 bif (ltI s1.1 (lenL x0.fL)) then (
  need (InB s1.1 (lenL x0.fL)) <|
  need (CutB 0 s1.1 (lenL x0.fL)) <|
  ((gak (Tl.mk (cutL x0.fL 0 s1.1) 0) ((nthI x0.fL s1.1).fk))).bind fun r1 =>
  bif (eqI (lenL r1) 0) then (
   ((gF ((nthI x0.fL s1.1).fk))).bind fun r2 =>
   need (AppB (lenL s1.2) 1 16) <|
   some (.go ((addI .i64 s1.1 1), (appL s1.2 [r2])))
  ) else (
    some (.go ((addI .i64 s1.1 1), s1.2))
  )
 ) else (
   some (.out (.go s1.2))
 )
noncomputable def gY (x0 : Tl) : Option (List ByteArray) :=
 ((loopF (gY.loop1 x0) (0, [])).bind fun f => flC f fun (v1 : List ByteArray) =>
   some v1
 )
noncomputable def gae.loop1 (x0 : Tl) (x2 : ByteArray) (r2 : List Ta) (s1 : Int) : Option (Fl Int (Fl Unit (Tl × Int × Int))) :=
 bif (ltI s1 (lenL r2)) then (
  need (InB s1 (lenL r2)) <|
  ((gF ((nthI r2 s1).fo))).bind fun r3 =>
  ((gF x2)).bind fun r4 =>
  bif (eqS r3 r4) then (
   some (.out (.out (x0, 0, 10)))
  ) else (
    some (.go (addI .i64 s1 1))
  )
 ) else (
   some (.out (.go ()))
 )
noncomputable def gae (x0 : Tl) (x1 : ByteArray) (x2 : ByteArray) : Option (Tl × Int × Int) :=
 ((gM x1)).bind fun r1 =>
 need (Under (notB r1) false ((gM x2).isSome = true)) <|
 bif (pickB (notB r1) true (notB ((gM x2).getD dflt))) then (
  some (x0, 0, 6)
 ) else (
   ((gak x0 x1)).bind fun r2 =>
   ((loopF (gae.loop1 x0 x2 r2) 0).bind fun f => flC f fun (_v1 : Unit) =>
     need (Under (eqI (lenL r2) 0) true (Under (leqI 16 (lenL r2)) false ((gY x0).isSome = true))) <|
     bif (pickB (pickB (leqI 16 (lenL r2)) true (pickB (eqI (lenL r2) 0) (leqI 8 (lenL ((gY x0).getD dflt))) false)) true (ltI 65535 x0.fh)) then (
      some (x0, 0, 11)
     ) else (
       need (AppB 0 (lenL x0.fL) 40) <|
       need (AppB (lenL x0.fL) 1 40) <|
       some ((Tl.mk (appL (appL [] x0.fL) [(Ta.mk x0.fh x2 x1)]) (addI .i64 x0.fh 1)), x0.fh, 0)
     )
   )
 )
noncomputable def gac.loop1 (x0 : Tl) (x1 : Int) (s1 : Int × List Ta) : Option (Fl (Int × List Ta) (Fl (List Ta) (Tl × Int))) :=
 bif (ltI s1.1 (lenL x0.fL)) then (
  need (InB s1.1 (lenL x0.fL)) <|
  bif (neI ((nthI x0.fL s1.1).fN) x1) then (
   need (AppB (lenL s1.2) 1 40) <|
   some (.go ((addI .i64 s1.1 1), (appL s1.2 [(Ta.mk ((nthI x0.fL s1.1).fN) ((nthI x0.fL s1.1).fo) ((nthI x0.fL s1.1).fk))])))
  ) else (
    some (.go ((addI .i64 s1.1 1), s1.2))
  )
 ) else (
   some (.out (.go s1.2))
 )
noncomputable def gac (x0 : Tl) (x1 : Int) : Option (Tl × Int) :=
 ((loopF (gac.loop1 x0 x1) (0, [])).bind fun f => flC f fun (v1 : List Ta) =>
   bif (eqI (lenL v1) (lenL x0.fL)) then (
    some (x0, 8)
   ) else (
     some ((Tl.mk v1 x0.fh), 0)
   )
 )
noncomputable def gal (x0 : Tl) (x1 : Int) (x2 : Int) : Option Bool :=
 ((gQ x0 x1)).bind fun r1 =>
 ((gQ x0 x2)).bind fun r2 =>
 need (Under (pickB (pickB r1.2 r2.2 false) (neI x1 x2) false) true ((gF r1.1.fk).isSome = true)) <|
 need (Under (pickB (pickB r1.2 r2.2 false) (neI x1 x2) false) true ((gF r2.1.fk).isSome = true)) <|
 some (pickB (pickB (pickB r1.2 r2.2 false) (neI x1 x2) false) (eqS ((gF r1.1.fk).getD dflt) ((gF r2.1.fk).getD dflt)) false)
end Go.Proofs
end
section
set_option maxRecDepth 100000
namespace Go.Proofs
open Go.Ab
theorem bif_swap (p q : Bool) (n : Int) : (bif p then addI .i64 (bif q then addI .i64 n 1 else n) 1 else (bif q then addI .i64 n 1 else n)) = (bif q then addI .i64 (bif p then addI .i64 n 1 else n) 1 else (bif p then addI .i64 n 1 else n)) := by
 cases p <;> cases q <;> rfl
theorem gaD.can (x0 : Tn) (x1 : Int) (r : Int) (hr : gaD x0 x1 = some r) : CallOk Tryz.prog 89 [.ptr 0 0, .lit (.int .i64 x1)] [.blk [.ptr 1 0, .mp 3, .mp 4, .mp 5], .blk [.mp 2, .lit (.int .i64 x0.fe.fh)], .mapo (encM (kI .i64) (vA Ta.enc) x0.fe.fg), .mapo (encM (vA Td.enc) (vA Th.enc) x0.fa), .mapo (encM (vA Tb.enc) (vA Tf.enc) x0.fd), .mapo (encM (kI .u32) (vA Tj.enc) x0.fj)] { av := .lit (.int .i64 r), M := none } := by
 unfold gaD at hr;obtain rfl := La hr;have hΓ := gamL_nil (P := Tryz.prog);refine cw Tryz.func89 rfl (by kernel_rfl) rfl rfl (by simp) fun _ _ _ => ?_;refine tq hΓ [] [] ?_;refine tq hΓ [5] [] ?_;refine AWp.seq ?_;refine tq hΓ [11] [0] ?_;refine AWp.foldK (kE := vA Tb.enc) (vE := vA Tf.enc) (i := 4) (u := 6) (mm := 7) Tb.kval_enc Tb.kinj (fun (e : Tb × Tf) (n : Int) => bif eqI e.1.fu x1 then addI .i64 n 1 else n) (fun x y a => bif_swap _ _ a) x0.fd 0 (fun a vis1 cur1 => ⟨[⟨11, none, .it 6⟩, ⟨5, none, .n a⟩, ⟨1, none, .n x1⟩], [.blk [.ptr 1 0, .mp 3, .mp 4, .mp 5], .blk [.mp 2, .n x0.fe.fh], .mapo (encM (kI .i64) (vA Ta.enc) x0.fe.fg), .mapo (encM (vA Td.enc) (vA Th.enc) x0.fa), .mapr (linksM x0.fd) vis1 cur1 6, .mapo (encM (kI .u32) (vA Tj.enc) x0.fj), .dead]⟩) (fun a => ⟨[⟨5, none, .n a⟩], [.blk [.ptr 1 0, .mp 3, .mp 4, .mp 5], .blk [.mp 2, .n x0.fe.fh], .mapo (encM (kI .i64) (vA Ta.enc) x0.fe.fg), .mapo (encM (vA Td.enc) (vA Th.enc) x0.fa), .mapo (linksM x0.fd), .mapo (encM (kI .u32) (vA Tj.enc) x0.fj)]⟩) (fun _ _ _ => rfl) (by simp) (fun a vis1 cur1 => ?_) (fun σ1 mx hc => ?_)
 ·refine AWp.seq (AWp.regNextK Tryz.tyOk hΓ (t := 11) (u := 6) (i := 4) (d1 := 12) rfl rfl rfl rfl (keep := [13]) (dead := []) (by kernel_rfl) rfl (by simp) rfl (fun q hq => ?_) (fun h15 => ⟨⟨[⟨13, none, .b false⟩, ⟨11, none, .it 6⟩, ⟨5, none, .n a⟩, ⟨1, none, .n x1⟩], [.blk [.ptr 1 0, .mp 3, .mp 4, .mp 5], .blk [.mp 2, .n x0.fe.fh], .mapo (encM (kI .i64) (vA Ta.enc) x0.fe.fg), .mapo (encM (vA Td.enc) (vA Th.enc) x0.fa), .mapr (linksM x0.fd) vis1 cur1 6, .mapo (encM (kI .u32) (vA Tj.enc) x0.fj), .dead]⟩, by simp, ?_⟩) (fun c k v x q1 q2 q3 => ?_))
  ·obtain ⟨e, _, rfl⟩ := List.mem_map.1 hq;exact ⟨_, Tb.kval_enc e.1⟩
  ·refine AWp.seq ?_;refine AWp.cond (b := false) (by simp) (fun hx => ?_) (fun hx => ?_)
   ·cases hx
   ·refine AWp.exit ?_;refine .inl ⟨rfl, fun k v hm => ?_, 6, by simp⟩;exact h15 _ _ _ (List.mem_map.2 ⟨(k, v), hm, rfl⟩) (Tb.kval_enc k)
  ·obtain ⟨⟨l, s0⟩, hm, he⟩ := List.mem_map.1 q3;simp only [Prod.mk.injEq] at he;obtain ⟨rfl, rfl⟩ := he;rw [Tb.kval_enc l] at q1;obtain rfl := Option.some.inj q1;have hc0 := hasC_enc (vE := vA Tf.enc) Tb.sameL_enc l x0.fd;rw [hasM_memK Tb.eq_iff hm] at hc0;simp only [Tb.enc] at hc0;have hc1 := fun z => getC_enc (vE := vA Tf.enc) Tb.sameL_enc l z default x0.fd (hasM_memK Tb.eq_iff hm);simp only [Tb.enc] at hc1;generalize getM Tb.eq l default x0.fd = s at hc1;refine ⟨⟨[⟨13, none, .lit (.bool true)⟩, ⟨11, none, .it 6⟩, ⟨5, none, .lit (.int .i64 a)⟩, ⟨1, none, .lit (.int .i64 x1)⟩], [.blk [.ptr 1 0, .mp 3, .mp 4, .mp 5], .blk [.mp 2, .lit (.int .i64 x0.fe.fh)], .mapo (encM (kI .i64) (vA Ta.enc) x0.fe.fg), .mapo (encM (vA Td.enc) (vA Th.enc) x0.fa), .mapr (linksM x0.fd) (keyVal l.enc :: vis1) (some (keyVal l.enc)) 6, .mapo (encM (kI .u32) (vA Tj.enc) x0.fj), .dead]⟩, by simp, ?_⟩;refine AWp.seq ?_;refine AWp.cond (b := true) (by simp) (fun hx => ?_) (fun hx => ?_)
   ·refine AWp.skip ?_;refine AWp.block ?_;refine tq hΓ [6] [13] ?_ (by simp [keyVal, litV, isLit, hc0, hc1, vA]; exact rr);refine tq hΓ [19] [6] ?_;refine AWp.cond (b := eqI l.fu x1) (by simp) (fun h19 => ?_) (fun h19 => ?_)
    ·refine tl hΓ [5] [19] ?_;exact .inr ⟨rfl, l, s0, q2, hm, 7, by simp [linksM, keyVal, litV, h19]⟩
    ·refine AWp.skip ?_;exact .inr ⟨rfl, l, s0, q2, hm, 7, by simp [linksM, keyVal, litV, h19]⟩
   ·cases hx
 ·refine AWp.conv hc ?_;refine tq hΓ [4] [5] ?_;exact AWp.ret (Lb (by simp))
end Go.Proofs
end
section
set_option maxHeartbeats 4000000
namespace Go.Proofs
open Go.Ab
@[simp] def gax.out (_x0 : Tc) (r : Tc) : Out := { av := .agg [.lit (.int .i64 r.fm), .lit (.string r.fk), .lit (.string r.fo), .lit (.int .i64 r.fc), .lit (.int .i64 r.fOf), .lit (.int .i64 r.ff), .lit (.int .i64 r.fp), .lit (.bool r.fOn), .lit (.bool r.fq), .sl (r.fb.map (eNum .u32)) .no], M := none }
def gax.fin (x0 : Tc) (r : Tc) (σ : St) : Prop := finK (gax.out x0 r) [] σ.M (resA Tryz.ty σ.A σ.M Tryz.f12.results.toList)
set_option maxRecDepth 100000 in
theorem gax.can (x0 : Tc) (r : Tc) (hr : gax x0 = some r) : CallOk Tryz.prog 12 [.agg [.lit (.int .i64 x0.fm), .lit (.string x0.fk), .lit (.string x0.fo), .lit (.int .i64 x0.fc), .lit (.int .i64 x0.fOf), .lit (.int .i64 x0.ff), .lit (.int .i64 x0.fp), .lit (.bool x0.fOn), .lit (.bool x0.fq), .sl (x0.fb.map (eNum .u32)) .no]] [] (gax.out x0 r) := by
 unfold gax at hr;have hΓ := (gamL_cons gaA.ok (gamL_nil) : GamOk Tryz.prog _);refine cw Tryz.func12 rfl (by kernel_rfl) rfl rfl (by simp) fun _ _ _ => ?_;refine tq hΓ [1, 2] [0] ?_;obtain ⟨r1, h5, hr⟩ := Lc hr;obtain ⟨r2, h6, hr⟩ := Lc hr;refine td hΓ [] [] [] [(false, []), (false, []), (false, []), (false, []), (false, []), (false, []), (false, []), (true, []), (false, []), (true, [])] (by simp [h5, h6]; exact rr) ?_;refine AWp.meetF (fun (v1 : Tc) (γ1 : Unit) => ⟨[⟨1, none, .ptr 0 0⟩, ⟨2, none, .ptr 1 0⟩], [.blk v1.enc, .blk [.n 0, .s ⟨#[]⟩, .s ⟨#[]⟩, .n 0, .n 0, .n 0, .n 0, .b false, .b false, .sl [] .full]]⟩) (gax.fin x0) hr (fun f hr => ?_) (fun v1 γ1 hr => ?_) (fun _ h => h)
 ·refine tq hΓ [14] [] ?_ (by simp; exact rr);refine AWp.cnd hr (by simp) (fun h7 hr => ?_) (fun h7 hr => ?_)
  ·obtain ⟨h8, hr⟩ := Ld hr;refine tl hΓ [] [14] ?_ (by simp [h7, h8]; exact rr);obtain rfl := La hr;exact meet_go () 2 (by first | (simp; done) | simp [h5, h6, h7, h8])
  ·refine AWp.skip ?_;obtain rfl := La hr;exact meet_go () 2 (by first | (simp; done) | simp [h5, h6, h7])
 ·refine tq hΓ [] [1] ?_ (by simp; exact rr);obtain rfl := La hr;exact AWp.ret (Lb (by simp))
@[simp] noncomputable def gax.S : Sp
  | [.agg e0], _ => (fun (y0 : Tc) => (fun (r : Tc) => some { av := .agg [.lit (.int .i64 (r.fm)), .lit (.string (r.fk)), .lit (.string (r.fo)), .lit (.int .i64 (r.fc)), .lit (.int .i64 (r.fOf)), .lit (.int .i64 (r.ff)), .lit (.int .i64 (r.fp)), .lit (.bool (r.fOn)), .lit (.bool (r.fq)), .sl ((r.fb).map (eNum .u32)) .no], M := none, obl := WeakL e0 (Tc.enc y0) ∧ (gax y0).isSome = true }) ((gax y0).getD dflt)) (Tc.dec e0)
  | _, _ => none
theorem gax.ok : SpecOk Tryz.prog 12 gax.S := by
 intro l M out h;unfold gax.S at h;split at h
 ·rename_i e0
  try dsimp only at h
  cases h;refine callOk_of fun ho => ?_;obtain ⟨ox0, hs⟩ := ho;generalize (Tc.dec e0) = x0 at *
  obtain ⟨r, hr⟩ := so1 hs;simp only [hr, gd1];have q := Lf (M := M) [] (gax.can x0 r hr) (by simp) rfl ixn;exact callOk_conv q trivial (by simp; exact ox0) (by simp [frameOut]) (by simp [frameOut])
 ·cases h
@[simp] def gaC.out (_x0 : Tc) (r : Tc) : Out := { av := .agg [.lit (.int .i64 r.fm), .lit (.string r.fk), .lit (.string r.fo), .lit (.int .i64 r.fc), .lit (.int .i64 r.fOf), .lit (.int .i64 r.ff), .lit (.int .i64 r.fp), .lit (.bool r.fOn), .lit (.bool r.fq), .sl (r.fb.map (eNum .u32)) .no], M := none }
set_option maxRecDepth 100000 in
theorem gaC.can (x0 : Tc) (r : Tc) (hr : gaC x0 = some r) : CallOk Tryz.prog 24 [.agg [.lit (.int .i64 x0.fm), .lit (.string x0.fk), .lit (.string x0.fo), .lit (.int .i64 x0.fc), .lit (.int .i64 x0.fOf), .lit (.int .i64 x0.ff), .lit (.int .i64 x0.fp), .lit (.bool x0.fOn), .lit (.bool x0.fq), .sl (x0.fb.map (eNum .u32)) .no]] [] (gaC.out x0 r) := by
 unfold gaC at hr;have hΓ := gamL_nil (P := Tryz.prog);refine cw Tryz.func24 rfl (by kernel_rfl) rfl rfl (by simp) fun _ _ _ => ?_;refine tq hΓ [1, 2] [0] ?_;refine tq hΓ [] [1] ?_;obtain rfl := La hr;exact AWp.ret (Lb (by simp))
@[simp] noncomputable def gaC.S : Sp
  | [.agg e0], _ => (fun (y0 : Tc) => (fun (r : Tc) => some { av := .agg [.lit (.int .i64 (r.fm)), .lit (.string (r.fk)), .lit (.string (r.fo)), .lit (.int .i64 (r.fc)), .lit (.int .i64 (r.fOf)), .lit (.int .i64 (r.ff)), .lit (.int .i64 (r.fp)), .lit (.bool (r.fOn)), .lit (.bool (r.fq)), .sl ((r.fb).map (eNum .u32)) .no], M := none, obl := WeakL e0 (Tc.enc y0) ∧ (gaC y0).isSome = true }) ((gaC y0).getD dflt)) (Tc.dec e0)
  | _, _ => none
theorem gaC.ok : SpecOk Tryz.prog 24 gaC.S := by
 intro l M out h;unfold gaC.S at h;split at h
 ·rename_i e0
  try dsimp only at h
  cases h;refine callOk_of fun ho => ?_;obtain ⟨ox0, hs⟩ := ho;generalize (Tc.dec e0) = x0 at *
  obtain ⟨r, hr⟩ := so1 hs;simp only [hr, gd1];have q := Lf (M := M) [] (gaC.can x0 r hr) (by simp) rfl ixn;exact callOk_conv q trivial (by simp; exact ox0) (by simp [frameOut]) (by simp [frameOut])
 ·cases h
end Go.Proofs
end

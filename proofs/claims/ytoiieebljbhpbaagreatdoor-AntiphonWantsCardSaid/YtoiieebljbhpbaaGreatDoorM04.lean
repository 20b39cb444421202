import Derived.Test.YtoiieebljbhpbaaGreatDoorTy
import Derived.Test.YtoiieebljbhpbaaGreatDoorTs
import Derived.Test.YtoiieebljbhpbaaGreatDoorM16
import Derived.Test.YtoiieebljbhpbaaGreatDoorM17
section
set_option maxRecDepth 100000
namespace Go.Proofs
open Go.Ab
theorem pickB_andB (p q : Bool) : qaf p q false = (p && q) := by cases p <;> rfl
theorem Tc.ks (x : Tc) : keyS Tryz.ty 42 x.enc = true := by simp [keyS, coverT, coverFs, isLit, TyK.agg]
@[simp] theorem Tc.ksl (a0 : Int) (a1 : Int) : keyS Tryz.ty 42 [.lit (.int .i64 a0), .lit (.int .i64 a1)] = true := Tc.ks (Tc.mk a0 a1)
theorem Tc.eqT (x y : Tc) : eqT Tryz.ty 8 42 x.enc y.enc = some (Tc.eq x y) := by simp [Go.Ab.eqT, eqFs, Tc.eq, pickB_andB]
@[simp] theorem Tc.vren (σ : Nat → Nat) (x : Tc) : (vA Tc.enc x).ren σ = vA Tc.enc x := vA_ren_eq (fun x => by simp) x
@[simp] theorem Tc.hasS {V : Type} (vE : V → AV) (a0 : Int) (a1 : Int) (m : List (Tc × V)) : hasS Tryz.ty 42 [.lit (.int .i64 a0), .lit (.int .i64 a1)] (qas (vA Tc.enc) vE m) = some (hasM Tc.eq (Tc.mk a0 a1) m) := hasS_enc (dec := Tc.dec) Tc.ks Tc.eqT (by rfl) m
@[simp] theorem Tc.delS {V : Type} (vE : V → AV) (a0 : Int) (a1 : Int) (m : List (Tc × V)) : delS Tryz.ty 42 [.lit (.int .i64 a0), .lit (.int .i64 a1)] (qas (vA Tc.enc) vE m) = qas (vA Tc.enc) vE (delM Tc.eq (Tc.mk a0 a1) m) := delS_enc (dec := Tc.dec) Tc.eqT (by rfl) m
theorem Tb.ks (x : Tb) : keyS Tryz.ty 51 x.enc = true := by simp [keyS, coverT, coverFs, isLit, TyK.agg]
@[simp] theorem Tb.ksl (a0 : Int) (a1 : Int) (a2 : Int) : keyS Tryz.ty 51 [.lit (.int .i64 a0), .lit (.int .i64 a1), .lit (.int .i64 a2)] = true := Tb.ks (Tb.mk a0 (Tc.mk a1 a2))
theorem Tb.eqT (x y : Tb) : eqT Tryz.ty 8 51 x.enc y.enc = some (Tb.eq x y) := by simp [Go.Ab.eqT, eqFs, Tb.eq, pickB_andB, Bool.and_assoc]
@[simp] theorem Tb.vren (σ : Nat → Nat) (x : Tb) : (vA Tb.enc x).ren σ = vA Tb.enc x := vA_ren_eq (fun x => by simp) x
@[simp] theorem Tb.hasS {V : Type} (vE : V → AV) (a0 : Int) (a1 : Int) (a2 : Int) (m : List (Tb × V)) : hasS Tryz.ty 51 [.lit (.int .i64 a0), .lit (.int .i64 a1), .lit (.int .i64 a2)] (qas (vA Tb.enc) vE m) = some (hasM Tb.eq (Tb.mk a0 (Tc.mk a1 a2)) m) := hasS_enc (dec := Tb.dec) Tb.ks Tb.eqT (by rfl) m
@[simp] theorem Tb.delS {V : Type} (vE : V → AV) (a0 : Int) (a1 : Int) (a2 : Int) (m : List (Tb × V)) : delS Tryz.ty 51 [.lit (.int .i64 a0), .lit (.int .i64 a1), .lit (.int .i64 a2)] (qas (vA Tb.enc) vE m) = qas (vA Tb.enc) vE (delM Tb.eq (Tb.mk a0 (Tc.mk a1 a2)) m) := delS_enc (dec := Tb.dec) Tb.eqT (by rfl) m
@[simp] theorem Te.Tc.getS (a0 : Int) (a1 : Int) (m : List (Tc × Te)) : getS Tryz.ty 42 [.lit (.int .i64 a0), .lit (.int .i64 a1)] (.agg [.lit (.bool false), .lit (.bool false), .sl [] .no]) (qas (vA Tc.enc) (vA Te.enc) m) = .agg (Te.enc (getM Tc.eq (Tc.mk a0 a1) (Te.mk false false []) m)) := getS_enc (vE := vA Te.enc) (d := (Te.mk false false [])) (dec := Tc.dec) Tc.eqT (by rfl) (by simp [vA]) m
@[simp] theorem Te.Tc.setSc (a0 : Int) (a1 : Int) (b0 : Bool) (b1 : Bool) (b2 : List Int) (m : List (Tc × Te)) : setS Tryz.ty 42 [.lit (.int .i64 a0), .lit (.int .i64 a1)] (.agg [.lit (.bool b0), .lit (.bool b1), .sl (b2.map (eNum .u32)) .no]) (qas (vA Tc.enc) (vA Te.enc) m) = qas (vA Tc.enc) (vA Te.enc) (setM Tc.eq (Tc.mk a0 a1) (Te.mk b0 b1 b2) m) := setS_enc (vE := vA Te.enc) (v := (Te.mk b0 b1 b2)) (dec := Tc.dec) Tc.eqT (by rfl) (by simp [vA]) m
@[simp] theorem Te.Tc.setS (a0 : Int) (a1 : Int) (l : List AV) (h : l = Te.enc (Te.dec l)) (m : List (Tc × Te)) : setS Tryz.ty 42 [.lit (.int .i64 a0), .lit (.int .i64 a1)] (.agg l) (qas (vA Tc.enc) (vA Te.enc) m) = qas (vA Tc.enc) (vA Te.enc) (setM Tc.eq (Tc.mk a0 a1) (Te.dec l) m) := setS_enc (vE := vA Te.enc) (v := Te.dec l) (dec := Tc.dec) Tc.eqT (by rfl) (congrArg AV.agg h) m
@[simp] theorem Te.Tc.mren (σ : Nat → Nat) (m : List (Tc × Te)) : (qau.mapo (qas (vA Tc.enc) (vA Te.enc) m)).ren σ = .mapo (qas (vA Tc.enc) (vA Te.enc) m) := encM_ren (Tc.vren σ) (Te.vren σ) m
@[simp] theorem Te.Tc.mbel (n : Nat) (m : List (Tc × Te)) : (qau.mapo (qas (vA Tc.enc) (vA Te.enc) m)).bel n ↔ True := encM_bel (fun x => by simp) (fun x => by simp) m
@[simp] theorem Te.Tc.mdec (m : List (Tc × Te)) : decM (dvA Tc.dec) (dvA Te.dec) (qas (vA Tc.enc) (vA Te.enc) m) = m := decM_encM (fun x => by simp) (fun x => by simp) m
@[simp] theorem Tf.Tb.getS (a0 : Int) (a1 : Int) (a2 : Int) (m : List (Tb × Tf)) : getS Tryz.ty 51 [.lit (.int .i64 a0), .lit (.int .i64 a1), .lit (.int .i64 a2)] (.agg [.lit (.int .i64 0), .lit (.bool false)]) (qas (vA Tb.enc) (vA Tf.enc) m) = .agg (Tf.enc (getM Tb.eq (Tb.mk a0 (Tc.mk a1 a2)) (Tf.mk 0 false) m)) := getS_enc (vE := vA Tf.enc) (d := (Tf.mk 0 false)) (dec := Tb.dec) Tb.eqT (by rfl) (by simp [vA]) m
@[simp] theorem Tf.Tb.setSc (a0 : Int) (a1 : Int) (a2 : Int) (b0 : Int) (b1 : Bool) (m : List (Tb × Tf)) : setS Tryz.ty 51 [.lit (.int .i64 a0), .lit (.int .i64 a1), .lit (.int .i64 a2)] (.agg [.lit (.int .i64 b0), .lit (.bool b1)]) (qas (vA Tb.enc) (vA Tf.enc) m) = qas (vA Tb.enc) (vA Tf.enc) (setM Tb.eq (Tb.mk a0 (Tc.mk a1 a2)) (Tf.mk b0 b1) m) := setS_enc (vE := vA Tf.enc) (v := (Tf.mk b0 b1)) (dec := Tb.dec) Tb.eqT (by rfl) (by simp [vA]) m
@[simp] theorem Tf.Tb.setS (a0 : Int) (a1 : Int) (a2 : Int) (l : List AV) (h : l = Tf.enc (Tf.dec l)) (m : List (Tb × Tf)) : setS Tryz.ty 51 [.lit (.int .i64 a0), .lit (.int .i64 a1), .lit (.int .i64 a2)] (.agg l) (qas (vA Tb.enc) (vA Tf.enc) m) = qas (vA Tb.enc) (vA Tf.enc) (setM Tb.eq (Tb.mk a0 (Tc.mk a1 a2)) (Tf.dec l) m) := setS_enc (vE := vA Tf.enc) (v := Tf.dec l) (dec := Tb.dec) Tb.eqT (by rfl) (congrArg AV.agg h) m
@[simp] theorem Tf.Tb.mren (σ : Nat → Nat) (m : List (Tb × Tf)) : (qau.mapo (qas (vA Tb.enc) (vA Tf.enc) m)).ren σ = .mapo (qas (vA Tb.enc) (vA Tf.enc) m) := encM_ren (Tb.vren σ) (Tf.vren σ) m
@[simp] theorem Tf.Tb.mbel (n : Nat) (m : List (Tb × Tf)) : (qau.mapo (qas (vA Tb.enc) (vA Tf.enc) m)).bel n ↔ True := encM_bel (fun x => by simp) (fun x => by simp) m
@[simp] theorem Tf.Tb.mdec (m : List (Tb × Tf)) : decM (dvA Tb.dec) (dvA Tf.dec) (qas (vA Tb.enc) (vA Tf.enc) m) = m := decM_encM (fun x => by simp) (fun x => by simp) m
@[simp] theorem Tl.setVIc (k : IntKind) (x : Int) (b0 : Bool) (b1 : Int) (b2 : Int) (b3 : Int) (b4 : Int) (b5 : List Int) (b6 : Bool) (b7 : Int) (b8 : ByteArray) (b9 : ByteArray) (b10 : Int) (m : List (Int × Tl)) : setV (.int k x) (.agg [.lit (.bool b0), .lit (.int .u8 b1), .lit (.int .u16 b2), .lit (.int .u32 b3), .lit (.int .u32 b4), .sl (b5.map (eNum .u32)) .no, .lit (.bool b6), .lit (.int .u16 b7), .lit (.string b8), .lit (.string b9), .lit (.int .i64 b10)]) (qas (kI k) (vA Tl.enc) m) = qas (kI k) (vA Tl.enc) (setM eqI x (Tl.mk b0 b1 b2 b3 b4 b5 b6 b7 b8 b9 b10) m) := setV_I (vE := vA Tl.enc) (v := (Tl.mk b0 b1 b2 b3 b4 b5 b6 b7 b8 b9 b10)) (by simp [vA]) x m
@[simp] theorem Tg.setVIc (k : IntKind) (x : Int) (b0 : Int) (b1 : Int) (b2 : Int) (m : List (Int × Tg)) : setV (.int k x) (.agg [.lit (.int .i64 b0), .lit (.int .i64 b1), .lit (.int .i64 b2)]) (qas (kI k) (vA Tg.enc) m) = qas (kI k) (vA Tg.enc) (setM eqI x (Tg.mk (Tc.mk b0 b1) b2) m) := setV_I (vE := vA Tg.enc) (v := (Tg.mk (Tc.mk b0 b1) b2)) (by simp [vA]) x m
@[simp] theorem Ta.setVIc (k : IntKind) (x : Int) (b0 : Int) (b1 : ByteArray) (b2 : ByteArray) (m : List (Int × Ta)) : setV (.int k x) (.agg [.lit (.int .i64 b0), .lit (.string b1), .lit (.string b2)]) (qas (kI k) (vA Ta.enc) m) = qas (kI k) (vA Ta.enc) (setM eqI x (Ta.mk b0 b1 b2) m) := setV_I (vE := vA Ta.enc) (v := (Ta.mk b0 b1 b2)) (by simp [vA]) x m
end Go.Proofs
end
section
set_option maxHeartbeats 4000000
namespace Go.Proofs
open Go.Ab
@[simp] def gN.m (_x0 : Tb) (_x1 : Tf) (x2 : Tc) : List qau := [.blk x2.enc]
@[simp] def gN.out (_x0 : Tb) (_x1 : Tf) (_x2 : Tc) (r : Bool) : Out := { av := .lit (.bool r), M := none }
set_option maxRecDepth 100000 in
theorem gN.can (x0 : Tb) (x1 : Tf) (x2 : Tc) (r : Bool) (hr : gN x0 x1 x2 = some r) : qao Tryz.prog 126 [.agg [.lit (.int .i64 x0.fu), .lit (.int .i64 x0.fOf.fc), .lit (.int .i64 x0.fOf.ff)], .agg [.lit (.int .i64 x1.fo), .lit (.bool x1.fw)], .ptr 0 0] (gN.m x0 x1 x2) (gN.out x0 x1 x2 r) := by
 unfold gN at hr;have hΓ := qae (P := Tryz.prog);refine cw Tryz.func126 rfl (by kernel_rfl) rfl rfl (by simp) fun _ _ _ => ?_;refine tq hΓ [3] [0, 1] ?_;refine tq hΓ [5] [3, 2] ?_;obtain rfl := La hr;exact AWp.ret (Ld (by simp))
@[simp] noncomputable def gN.S : Sp
  | [.agg e0, .agg e1, .ptr i0 0], M => (rdB M i0).bind fun c0 => some { av := .lit (.bool ((gN (Tb.dec e0) (Tf.dec e1) (Tc.dec c0)).getD dflt)), M := none, obl := WeakL e0 (Tb.enc (Tb.dec e0)) ∧ WeakL e1 (Tf.enc (Tf.dec e1)) ∧ c0 = Tc.enc (Tc.dec c0) ∧ (gN (Tb.dec e0) (Tf.dec e1) (Tc.dec c0)).isSome = true }
  | _, _ => none
theorem gN.ok : qap Tryz.prog 126 gN.S := by
 intro l M out h;unfold gN.S at h;split at h
 ·rename_i e0 e1 i0;obtain ⟨c0, hM0, h⟩ := bB h;cases h;refine qad fun ho => ?_;obtain ⟨ox0, ox1, oc0, hs⟩ := ho;generalize (Tb.dec e0) = x0 at *
  generalize (Tf.dec e1) = x1 at *
  generalize (Tc.dec c0) = y0 at *
  subst oc0;obtain ⟨r, hr⟩ := so1 hs;simp only [hr, gd1];have q := Lf (M := M) [i0] (gN.can x0 x1 y0 r hr) (by simp) rfl (ix (by simp [hM0]) ixn);exact qac q trivial (by simp [into]; exact ⟨ox0, ox1⟩) (by simp [qaa]) (by simp only [qaa, gN.out, Option.getD_some, Option.getD_none]; simp [hM0, set_same])
 ·cases h
@[simp] def gT.m (_x0 : Tb) (_x1 : Tf) (x2 : Int) : List qau := [.blk [.lit (.int .i64 x2)]]
@[simp] def gT.out (_x0 : Tb) (_x1 : Tf) (_x2 : Int) (r : Bool) : Out := { av := .lit (.bool r), M := none }
set_option maxRecDepth 100000 in
theorem gT.can (x0 : Tb) (x1 : Tf) (x2 : Int) (r : Bool) (hr : gT x0 x1 x2 = some r) : qao Tryz.prog 88 [.agg [.lit (.int .i64 x0.fu), .lit (.int .i64 x0.fOf.fc), .lit (.int .i64 x0.fOf.ff)], .agg [.lit (.int .i64 x1.fo), .lit (.bool x1.fw)], .ptr 0 0] (gT.m x0 x1 x2) (gT.out x0 x1 x2 r) := by
 unfold gT at hr;have hΓ := qae (P := Tryz.prog);refine cw Tryz.func88 rfl (by kernel_rfl) rfl rfl (by simp) fun _ _ _ => ?_;refine tq hΓ [3] [0, 1] ?_;refine tq hΓ [5] [3, 2] ?_;obtain rfl := La hr;exact AWp.ret (Ld (by simp))
@[simp] noncomputable def gT.S : Sp
  | [.agg e0, .agg e1, .ptr i0 0], M => (rdB M i0).bind fun c0 => some { av := .lit (.bool ((gT (Tb.dec e0) (Tf.dec e1) (decI c0)).getD dflt)), M := none, obl := WeakL e0 (Tb.enc (Tb.dec e0)) ∧ WeakL e1 (Tf.enc (Tf.dec e1)) ∧ c0 = (eNum .i64) (decI c0) ∧ (gT (Tb.dec e0) (Tf.dec e1) (decI c0)).isSome = true }
  | _, _ => none
theorem gT.ok : qap Tryz.prog 88 gT.S := by
 intro l M out h;unfold gT.S at h;split at h
 ·rename_i e0 e1 i0;obtain ⟨c0, hM0, h⟩ := bB h;cases h;refine qad fun ho => ?_;obtain ⟨ox0, ox1, oc0, hs⟩ := ho;generalize (Tb.dec e0) = x0 at *
  generalize (Tf.dec e1) = x1 at *
  generalize (decI c0) = y0 at *
  subst oc0;obtain ⟨r, hr⟩ := so1 hs;simp only [hr, gd1];have q := Lf (M := M) [i0] (gT.can x0 x1 y0 r hr) (by simp) rfl (ix (by simp [hM0]) ixn);exact qac q trivial (by simp [into]; exact ⟨ox0, ox1⟩) (by simp [qaa]) (by simp only [qaa, gT.out, Option.getD_some, Option.getD_none]; simp [hM0, set_same])
 ·cases h
end Go.Proofs
end
section
namespace Go.Proofs
open Go.Ab
noncomputable def gaX (x0 : Int) : Option Bool :=
 some (qaf (leqI 2 x0) (leqI x0 8) false)
noncomputable def ga5 (x0 : Int) : Option Bool :=
 some (qaf (qaf (eqI x0 5) true (eqI x0 6)) true (eqI x0 8))
noncomputable def ga2 (x0 : Int) : Option Bool :=
 some (qaf (leqI 3 x0) (leqI x0 8) false)
noncomputable def ga0 (x0 : Int) : Option Bool :=
 some (qaf (leqI 0 x0) (leqI x0 65535) false)
noncomputable def gv.loop2 (x0 : Td) (s1 : Int) (s2 : Int) : Option (Fl Int (Fl Unit (Fl Int (Fl Unit Int)))) :=
 bif (ltI s2 s1) then (
  need (InB s1 (qat x0.fa)) <|
  need (InB s2 (qat x0.fa)) <|
  bif (eqI (nthI x0.fa s1) (nthI x0.fa s2)) then (
   some (.out (.out (.out (.out 10))))
  ) else (
    some (.go (addI .i64 s2 1))
  )
 ) else (
   some (.out (.go ()))
 )
noncomputable def gv.loop1 (x0 : Td) (s1 : Int) : Option (Fl Int (Fl Unit Int)) :=
 bif (ltI s1 (qat x0.fa)) then (
  ((loopF (gv.loop2 x0 s1) 0).bind fun f => flC f fun (_v2 : Unit) =>
    some (.go (addI .i64 s1 1))
  )
 ) else (
   some (.out (.go ()))
 )
noncomputable def gv (x0 : Td) : Option Int :=
 bif (qaf (qaf (ltI (qat x0.fa) 1) true (ltI 3 (qat x0.fa))) true (qaf (ltI 1 (qat x0.fa)) (notB x0.fq) false)) then (
  some 5
 ) else (
   ((loopF (gv.loop1 x0) 0).bind fun f => flC f fun (_v1 : Unit) =>
     some 0
   )
 )
noncomputable def gaF (x0 : Td) : Option Int :=
 bif (qaf (ltI x0.fk 1) true (ltI 8 x0.fk)) then (
  some 3
 ) else (
   need (Under (qaf (neI x0.fk 1) (qaf (neS x0.fm ⟨#[]⟩) true (neS x0.fp ⟨#[]⟩)) false) false ((gaX x0.fk).isSome = true)) <|
   need (Under (qaf (qaf (neI x0.fk 1) (qaf (neS x0.fm ⟨#[]⟩) true (neS x0.fp ⟨#[]⟩)) false) true (qaf (notB ((gaX x0.fk).getD dflt)) (neI x0.fc 0) false)) false ((ga5 x0.fk).isSome = true)) <|
   need (Under (qaf (qaf (qaf (neI x0.fk 1) (qaf (neS x0.fm ⟨#[]⟩) true (neS x0.fp ⟨#[]⟩)) false) true (qaf (notB ((gaX x0.fk).getD dflt)) (neI x0.fc 0) false)) true (qaf (notB ((ga5 x0.fk).getD dflt)) (neI x0.fOf 0) false)) false ((ga2 x0.fk).isSome = true)) <|
   bif (qaf (qaf (qaf (qaf (neI x0.fk 1) (qaf (neS x0.fm ⟨#[]⟩) true (neS x0.fp ⟨#[]⟩)) false) true (qaf (notB ((gaX x0.fk).getD dflt)) (neI x0.fc 0) false)) true (qaf (notB ((ga5 x0.fk).getD dflt)) (neI x0.fOf 0) false)) true (qaf (notB ((ga2 x0.fk).getD dflt)) (neI x0.ff 0) false)) then (
    some 2
   ) else (
     bif (qaf (qaf (qaf (neI x0.fk 5) (neI x0.fo 0) false) true (qaf (qaf (neI x0.fk 7) (neI x0.fk 8) false) x0.fOn false)) true (qaf (neI x0.fk 3) (qaf x0.fq true (ltI 0 (qat x0.fa))) false)) then (
      some 2
     ) else (
       ((ga0 x0.fc)).bind fun r1 =>
       need (Under (notB r1) false ((ga0 x0.fOf).isSome = true)) <|
       bif (qaf (qaf (qaf (qaf (qaf (notB r1) true (notB ((ga0 x0.fOf).getD dflt))) true (ltI x0.ff 0)) true (ltI 3 x0.ff)) true (ltI x0.fo 0)) true (ltI 2 x0.fo)) then (
        some 5
       ) else (
         need (Under (eqI x0.fk 1) true ((gat x0.fm).isSome = true)) <|
         need (Under (notB ((gat x0.fm).getD dflt)) false (Under (eqI x0.fk 1) true ((gat x0.fp).isSome = true))) <|
         bif (qaf (eqI x0.fk 1) (qaf (notB ((gat x0.fm).getD dflt)) true (notB ((gat x0.fp).getD dflt))) false) then (
          some 6
         ) else (
           bif (eqI x0.fk 3) then (
            ((gv x0)).bind fun r2 =>
            some r2
           ) else (
             some 0
           )
         )
       )
     )
   )
 )
end Go.Proofs
end

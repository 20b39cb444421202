import Derived.Test.YtoiieebljbhpbaaGreatDoorTs
import Derived.Test.YtoiieebljbhpbaaGreatDoorM15
import Derived.Test.YtoiieebljbhpbaaGreatDoorM11
import Derived.Test.YtoiieebljbhpbaaGreatDoorTy
import Derived.Test.YtoiieebljbhpbaaGreatDoorM02
import Derived.Test.YtoiieebljbhpbaaGreatDoorM20
import Derived.Test.YtoiieebljbhpbaaGreatDoorNp
import Derived.Laws.Bits64
import Derived.Laws.BitsAllLaws
section
namespace Go.Proofs
open Go.Ab
noncomputable def gaF : Option Tq :=
 some (Tq.mk [] 0)
noncomputable def gZ (x0 : Tq) : Option Int :=
 some (lenL x0.fg)
noncomputable def gaa (x0 : Tq) (x1 : Int) : Option (Ta × Bool) :=
 some ((getM eqI x1 (Ta.mk 0 ⟨⟨[]⟩⟩ ⟨⟨[]⟩⟩) x0.fg), (hasM eqI x1 x0.fg))
noncomputable def gE.loop1 (x0 : Tq) (x1 : ByteArray) (s1 : Int × List Ta) : Option (Fl (Int × List Ta) (Fl (List Ta) (List Ta))) :=
 bif (ltI s1.1 (lenL (sortL (keysM x0.fg)))) then (
  need (InB s1.1 (lenL (sortL (keysM x0.fg)))) <|
  ((gan ((getM eqI (nthI (sortL (keysM x0.fg)) s1.1) (Ta.mk 0 ⟨⟨[]⟩⟩ ⟨⟨[]⟩⟩) x0.fg).fk) x1)).bind fun r1 =>
  bif r1 then (
   need (AppB (lenL s1.2) 1 40) <|
   some (.go ((addI .i64 s1.1 1), (appL s1.2 [(getM eqI (nthI (sortL (keysM x0.fg)) s1.1) (Ta.mk 0 ⟨⟨[]⟩⟩ ⟨⟨[]⟩⟩) x0.fg)])))
  ) else (
    some (.go ((addI .i64 s1.1 1), s1.2))
  )
 ) else (
   some (.out (.go s1.2))
 )
noncomputable def gE (x0 : Tq) (x1 : ByteArray) : Option (List Ta) :=
 need (KeysB (keysM x0.fg)) <|
 ((loopF (gE.loop1 x0 x1) (0, [])).bind fun f => flC f fun (v1 : List Ta) =>
   some v1
 )
noncomputable def gaf (x0 : Tq) (x1 : Int) : Option (Int × Tq) :=
 bif (notB (hasM eqI x1 x0.fg)) then (
  some (8, x0)
 ) else (
   some (0, (Tq.mk (delM eqI x1 x0.fg) x0.fh))
 )
noncomputable def gJ (x0 : Tq) (x1 : Int) (x2 : Int) : Option Bool :=
 need (Under (pickB (pickB (hasM eqI x1 x0.fg) (hasM eqI x2 x0.fg) false) (neI x1 x2) false) true ((gan ((getM eqI x1 (Ta.mk 0 ⟨⟨[]⟩⟩ ⟨⟨[]⟩⟩) x0.fg).fk) ((getM eqI x2 (Ta.mk 0 ⟨⟨[]⟩⟩ ⟨⟨[]⟩⟩) x0.fg).fk)).isSome = true)) <|
 some (pickB (pickB (pickB (hasM eqI x1 x0.fg) (hasM eqI x2 x0.fg) false) (neI x1 x2) false) ((gan ((getM eqI x1 (Ta.mk 0 ⟨⟨[]⟩⟩ ⟨⟨[]⟩⟩) x0.fg).fk) ((getM eqI x2 (Ta.mk 0 ⟨⟨[]⟩⟩ ⟨⟨[]⟩⟩) x0.fg).fk)).getD dflt) false)
end Go.Proofs
end
section
namespace Go.Proofs
open Go.Ab
noncomputable def gah (x0 : Ta) (x1 : ByteArray) : Option Bool :=
 ((gan x0.fo x1)).bind fun r1 =>
 some r1
noncomputable def ga.loop1 (x0 : List Ta) (x1c0 : ByteArray) (s1 : Int) : Option (Fl Int (Fl Unit Int)) :=
 bif (ltI s1 (lenL x0)) then (
  need (InB s1 (lenL x0)) <|
  ((gah (Ta.mk ((nthI x0 s1).fN) ((nthI x0 s1).fo) ((nthI x0 s1).fk)) x1c0)).bind fun r1 =>
  bif r1 then (
   some (.out (.out s1))
  ) else (
    some (.go (addI .i64 s1 1))
  )
 ) else (
   some (.out (.go ()))
 )
noncomputable def ga (x0 : List Ta) (x1c0 : ByteArray) : Option Int :=
 ((loopF (ga.loop1 x0 x1c0) 0).bind fun f => flC f fun (_v1 : Unit) =>
   some (-1)
 )
noncomputable def gc (x0 : List Ta) (x1c0 : ByteArray) : Option Bool :=
 ((ga x0 x1c0)).bind fun r1 =>
 some (leqI 0 r1)
noncomputable def gT (x0 : Tq) (x1 : ByteArray) (x2 : ByteArray) : Option (Int × Int × Tq) :=
 ((gB x1)).bind fun r1 =>
 need (Under (neI r1 0) false ((gB x2).isSome = true)) <|
 bif (pickB (neI r1 0) true (neI ((gB x2).getD dflt) 0)) then (
  some (0, 6, x0)
 ) else (
   ((gE x0 x1)).bind fun r2 =>
   ((
    ((gc r2 x2)).bind fun r3 =>
    bif r3 then (
     some (.out (0, 10, x0))
    ) else (
      ((
       bif (leqI 16 (lenL r2)) then (
        some (.go true)
       ) else (
         need (Under (eqI (lenL r2) 0) true ((gN x0).isSome = true)) <|
         bif (pickB (eqI (lenL r2) 0) (leqI 8 (lenL ((gN x0).getD dflt))) false) then (
          some (.go true)
         ) else (
           some (.go (ltI 65535 x0.fh))
         )
       )
       : Option (Fl Bool (Fl Unit (Int × Int × Tq)))).bind fun f => flC f fun (v2 : Bool) =>
       bif v2 then (
        some (.out (0, 11, x0))
       ) else (
         some (.go ())
       )
      )
    )
    : Option (Fl Unit (Int × Int × Tq))).bind fun f => flC f fun (_v1 : Unit) =>
    some (x0.fh, 0, (Tq.mk (setM eqI x0.fh (Ta.mk x0.fh x2 x1) x0.fg) (addI .i64 x0.fh 1)))
   )
 )
end Go.Proofs
end
section
namespace Go.Proofs
open Go.Ab
noncomputable def gax (x0 : Tc) : Option Tc :=
 ((gaA x0.fk 70)).bind fun r1 =>
 ((gaA x0.fo 70)).bind fun r2 =>
 ((
  bif (ltI 5 (lenL x0.fb)) then (
   need (CutB 0 5 (lenL x0.fb)) <|
   some (.go (Tc.mk x0.fm r1 r2 x0.fc x0.fOf x0.ff x0.fp x0.fOn x0.fq (cutL x0.fb 0 5)))
  ) else (
    some (.go (Tc.mk x0.fm r1 r2 x0.fc x0.fOf x0.ff x0.fp x0.fOn x0.fq x0.fb))
  )
  : Option (Fl Tc Tc)).bind fun f => flC f fun (v1 : Tc) =>
  some v1
 )
noncomputable def gaC (x0 : Tc) : Option Tc :=
 some x0
end Go.Proofs
end
section
namespace Go.Proofs
open Go.Ab
noncomputable def gap (x0 : Int) : Option Bool :=
 some (pickB (leqI 2 x0) (leqI x0 8) false)
noncomputable def gaB (x0 : Int) : Option Bool :=
 some (pickB (pickB (eqI x0 5) true (eqI x0 6)) true (eqI x0 8))
noncomputable def gaq (x0 : Int) : Option Bool :=
 some (pickB (leqI 3 x0) (leqI x0 8) false)
noncomputable def gat (x0 : Int) : Option Bool :=
 some (pickB (leqI 0 x0) (leqI x0 65535) false)
noncomputable def ge.loop2 (x0 : Tc) (s1 : Int) (s2 : Int) : Option (Fl Int (Fl Unit (Fl Int (Fl Unit Int)))) :=
 bif (ltI s2 s1) then (
  need (InB s1 (lenL x0.fb)) <|
  need (InB s2 (lenL x0.fb)) <|
  bif (eqI (nthI x0.fb s1) (nthI x0.fb s2)) then (
   some (.out (.out (.out (.out 10))))
  ) else (
    some (.go (addI .i64 s2 1))
  )
 ) else (
   some (.out (.go ()))
 )
noncomputable def ge.loop1 (x0 : Tc) (s1 : Int) : Option (Fl Int (Fl Unit Int)) :=
 bif (ltI s1 (lenL x0.fb)) then (
  ((loopF (ge.loop2 x0 s1) 0).bind fun f => flC f fun (_v2 : Unit) =>
    some (.go (addI .i64 s1 1))
  )
 ) else (
   some (.out (.go ()))
 )
noncomputable def ge (x0 : Tc) : Option Int :=
 bif (pickB (pickB (ltI (lenL x0.fb) 1) true (ltI 3 (lenL x0.fb))) true (pickB (ltI 1 (lenL x0.fb)) (notB x0.fq) false)) then (
  some 5
 ) else (
   ((loopF (ge.loop1 x0) 0).bind fun f => flC f fun (_v1 : Unit) =>
     some 0
   )
 )
noncomputable def gX (x0 : Tc) : Option Int :=
 bif (pickB (ltI x0.fm 1) true (ltI 8 x0.fm)) then (
  some 3
 ) else (
   need (Under (pickB (neI x0.fm 1) (pickB (neS x0.fk ⟨#[]⟩) true (neS x0.fo ⟨#[]⟩)) false) false ((gap x0.fm).isSome = true)) <|
   need (Under (pickB (pickB (neI x0.fm 1) (pickB (neS x0.fk ⟨#[]⟩) true (neS x0.fo ⟨#[]⟩)) false) true (pickB (notB ((gap x0.fm).getD dflt)) (neI x0.fc 0) false)) false ((gaB x0.fm).isSome = true)) <|
   need (Under (pickB (pickB (pickB (neI x0.fm 1) (pickB (neS x0.fk ⟨#[]⟩) true (neS x0.fo ⟨#[]⟩)) false) true (pickB (notB ((gap x0.fm).getD dflt)) (neI x0.fc 0) false)) true (pickB (notB ((gaB x0.fm).getD dflt)) (neI x0.fOf 0) false)) false ((gaq x0.fm).isSome = true)) <|
   bif (pickB (pickB (pickB (pickB (neI x0.fm 1) (pickB (neS x0.fk ⟨#[]⟩) true (neS x0.fo ⟨#[]⟩)) false) true (pickB (notB ((gap x0.fm).getD dflt)) (neI x0.fc 0) false)) true (pickB (notB ((gaB x0.fm).getD dflt)) (neI x0.fOf 0) false)) true (pickB (notB ((gaq x0.fm).getD dflt)) (neI x0.ff 0) false)) then (
    some 2
   ) else (
     bif (pickB (pickB (pickB (neI x0.fm 5) (neI x0.fp 0) false) true (pickB (pickB (neI x0.fm 7) (neI x0.fm 8) false) x0.fOn false)) true (pickB (neI x0.fm 3) (pickB x0.fq true (ltI 0 (lenL x0.fb))) false)) then (
      some 2
     ) else (
       ((gat x0.fc)).bind fun r1 =>
       need (Under (notB r1) false ((gat x0.fOf).isSome = true)) <|
       bif (pickB (pickB (pickB (pickB (pickB (notB r1) true (notB ((gat x0.fOf).getD dflt))) true (ltI x0.ff 0)) true (ltI 3 x0.ff)) true (ltI x0.fp 0)) true (ltI 2 x0.fp)) then (
        some 5
       ) else (
         need (Under (eqI x0.fm 1) true ((gM x0.fk).isSome = true)) <|
         need (Under (notB ((gM x0.fk).getD dflt)) false (Under (eqI x0.fm 1) true ((gM x0.fo).isSome = true))) <|
         bif (pickB (eqI x0.fm 1) (pickB (notB ((gM x0.fk).getD dflt)) true (notB ((gM x0.fo).getD dflt))) false) then (
          some 6
         ) else (
           bif (eqI x0.fm 3) then (
            ((ge x0)).bind fun r2 =>
            some r2
           ) else (
             some 0
           )
         )
       )
     )
   )
 )
end Go.Proofs
end
section
namespace Go.Proofs
open Go.Ab
noncomputable def gO (x0 : Tb) (_x1 : Tf) (x2 : Td) : Option Bool :=
 some (pickB (eqI x0.fOf.fc x2.fc) (eqI x0.fOf.ff x2.ff) false)
noncomputable def gU (x0 : Tb) (_x1 : Tf) (x2 : Int) : Option Bool :=
 some (eqI x0.fu x2)
end Go.Proofs
end
section
set_option maxHeartbeats 4000000
namespace Go.Proofs
open Go.Ab
@[simp] def gO.m (_x0 : Tb) (_x1 : Tf) (x2 : Td) : List AObj := [.blk x2.enc]
@[simp] def gO.out (_x0 : Tb) (_x1 : Tf) (_x2 : Td) (r : Bool) : Out := { av := .lit (.bool r), M := none }
set_option maxRecDepth 100000 in
theorem gO.can (x0 : Tb) (x1 : Tf) (x2 : Td) (r : Bool) (hr : gO x0 x1 x2 = some r) : CallOk Tryz.prog 126 [.agg [.lit (.int .i64 x0.fu), .lit (.int .i64 x0.fOf.fc), .lit (.int .i64 x0.fOf.ff)], .agg [.lit (.int .i64 x1.fp), .lit (.bool x1.fw)], .ptr 0 0] (gO.m x0 x1 x2) (gO.out x0 x1 x2 r) := by
 unfold gO at hr;have hΓ := gamL_nil (P := Tryz.prog);refine cw Tryz.func126 rfl (by kernel_rfl) rfl rfl (by simp) fun _ _ _ => ?_;refine tq hΓ [3] [0, 1] ?_;refine tq hΓ [5] [3, 2] ?_;obtain rfl := La hr;exact AWp.ret (Lb (by simp))
@[simp] noncomputable def gO.S : Sp
  | [.agg e0, .agg e1, .ptr i0 0], M => (rdB M i0).bind fun c0 => some { av := .lit (.bool ((gO (Tb.dec e0) (Tf.dec e1) (Td.dec c0)).getD dflt)), M := none, obl := WeakL e0 (Tb.enc (Tb.dec e0)) ∧ WeakL e1 (Tf.enc (Tf.dec e1)) ∧ c0 = Td.enc (Td.dec c0) ∧ (gO (Tb.dec e0) (Tf.dec e1) (Td.dec c0)).isSome = true }
  | _, _ => none
theorem gO.ok : SpecOk Tryz.prog 126 gO.S := by
 intro l M out h;unfold gO.S at h;split at h
 ·rename_i e0 e1 i0;obtain ⟨c0, hM0, h⟩ := bB h;cases h;refine callOk_of fun ho => ?_;obtain ⟨ox0, ox1, oc0, hs⟩ := ho;generalize (Tb.dec e0) = x0 at *
  generalize (Tf.dec e1) = x1 at *
  generalize (Td.dec c0) = y0 at *
  subst oc0;obtain ⟨r, hr⟩ := so1 hs;simp only [hr, gd1];have q := Lf (M := M) [i0] (gO.can x0 x1 y0 r hr) (by simp) rfl (ix (by simp [hM0]) ixn);exact callOk_conv q trivial (by simp [into]; exact ⟨ox0, ox1⟩) (by simp [frameOut]) (by simp only [frameOut, gO.out, Option.getD_some, Option.getD_none]; simp [hM0, set_same])
 ·cases h
@[simp] def gU.m (_x0 : Tb) (_x1 : Tf) (x2 : Int) : List AObj := [.blk [.lit (.int .i64 x2)]]
@[simp] def gU.out (_x0 : Tb) (_x1 : Tf) (_x2 : Int) (r : Bool) : Out := { av := .lit (.bool r), M := none }
set_option maxRecDepth 100000 in
theorem gU.can (x0 : Tb) (x1 : Tf) (x2 : Int) (r : Bool) (hr : gU x0 x1 x2 = some r) : CallOk Tryz.prog 88 [.agg [.lit (.int .i64 x0.fu), .lit (.int .i64 x0.fOf.fc), .lit (.int .i64 x0.fOf.ff)], .agg [.lit (.int .i64 x1.fp), .lit (.bool x1.fw)], .ptr 0 0] (gU.m x0 x1 x2) (gU.out x0 x1 x2 r) := by
 unfold gU at hr;have hΓ := gamL_nil (P := Tryz.prog);refine cw Tryz.func88 rfl (by kernel_rfl) rfl rfl (by simp) fun _ _ _ => ?_;refine tq hΓ [3] [0, 1] ?_;refine tq hΓ [5] [3, 2] ?_;obtain rfl := La hr;exact AWp.ret (Lb (by simp))
@[simp] noncomputable def gU.S : Sp
  | [.agg e0, .agg e1, .ptr i0 0], M => (rdB M i0).bind fun c0 => some { av := .lit (.bool ((gU (Tb.dec e0) (Tf.dec e1) (decI c0)).getD dflt)), M := none, obl := WeakL e0 (Tb.enc (Tb.dec e0)) ∧ WeakL e1 (Tf.enc (Tf.dec e1)) ∧ c0 = (eNum .i64) (decI c0) ∧ (gU (Tb.dec e0) (Tf.dec e1) (decI c0)).isSome = true }
  | _, _ => none
theorem gU.ok : SpecOk Tryz.prog 88 gU.S := by
 intro l M out h;unfold gU.S at h;split at h
 ·rename_i e0 e1 i0;obtain ⟨c0, hM0, h⟩ := bB h;cases h;refine callOk_of fun ho => ?_;obtain ⟨ox0, ox1, oc0, hs⟩ := ho;generalize (Tb.dec e0) = x0 at *
  generalize (Tf.dec e1) = x1 at *
  generalize (decI c0) = y0 at *
  subst oc0;obtain ⟨r, hr⟩ := so1 hs;simp only [hr, gd1];have q := Lf (M := M) [i0] (gU.can x0 x1 y0 r hr) (by simp) rfl (ix (by simp [hM0]) ixn);exact callOk_conv q trivial (by simp [into]; exact ⟨ox0, ox1⟩) (by simp [frameOut]) (by simp only [frameOut, gU.out, Option.getD_some, Option.getD_none]; simp [hM0, set_same])
 ·cases h
end Go.Proofs
end
section
namespace Go.Proofs
open Go.Ab
variable {V : Type}
theorem hasM_iff {k : Int} : ∀ {m : List (Int × V)}, hasM eqI k m = true ↔ k ∈ keysM m
 | [] => by simp [hasM, keysM]
 | e :: r => by
   have ih := hasM_iff (k := k) (m := r);simp only [hasM, keysM, List.map_cons, List.mem_cons];by_cases h : k = e.1
   ·rw [eqI_t h]; simp [pickB, h]
   ·rw [eqI_f h]; simp only [pickB, cond_false, h, false_or]; exact ih
theorem getM_of {k : Int} {v z : V} : ∀ {m : List (Int × V)}, (keysM m).Nodup → (k, v) ∈ m → getM eqI k z m = v
 | e :: r, hn, h => by
   simp only [keysM, List.map_cons, List.nodup_cons] at hn;simp only [getM];cases h with
   | head => rw [eqI_t rfl]; rfl
   | tail _ h =>
     have hne : k ≠ e.1 := fun q => hn.1 (List.mem_map.2 ⟨(k, v), h, q⟩);rw [eqI_f hne];simp only [Bool.false_eq_true, if_false];exact getM_of hn.2 h
theorem getM_no {k : Int} {z : V} : ∀ {m : List (Int × V)}, k ∉ keysM m → getM eqI k z m = z
 | [], _ => rfl
 | e :: r, h => by
   simp only [keysM, List.map_cons, List.mem_cons, not_or] at h;simp only [getM, eqI_f h.1, Bool.false_eq_true, if_false];exact getM_no h.2
theorem setM_no {k : Int} {v : V} : ∀ {m : List (Int × V)}, k ∉ keysM m → setM eqI k v m = m ++ [(k, v)]
 | [], _ => rfl
 | e :: r, h => by
   simp only [keysM, List.map_cons, List.mem_cons, not_or] at h;simp only [setM, eqI_f h.1, Bool.false_eq_true, if_false, List.cons_append];rw [setM_no h.2]
theorem sortL_of {l l' : List Int} (h : l.Perm l') (hs : l'.Pairwise (· ≤ ·)) : sortL l = l' := by
 unfold sortL;refine List.Perm.eq_of_pairwise (le := fun a b => a ≤ b) (fun a b _ _ h1 h2 => Int.le_antisymm h1 h2) ?_ hs ((List.mergeSort_perm l _).trans h);have := List.pairwise_mergeSort (le := fun x y : Int => decide (x ≤ y)) (fun a b c h1 h2 => by simp only [decide_eq_true_eq] at *; omega) (fun a b => by simp only [Bool.or_eq_true, decide_eq_true_eq]; omega) l;exact this.imp fun h => by simpa using h
theorem KeysB_of {l : List Int} (h : ∀ x ∈ l, -9223372036854775808 ≤ x ∧ x ≤ 9223372036854775807) (hl : l.length ≤ 1000000000000) : KeysB l :=
 ⟨fun x hx => by
  obtain ⟨h1, h2⟩ := h x hx;simp only [Lit.wf, Bool.and_eq_true, decide_eq_true_eq];exact ⟨h1, h2⟩, by omega⟩
end Go.Proofs
end
section
namespace Go.Ab
def ofB (l : List UInt8) : ByteArray := ⟨l.toArray⟩
theorem ofB_b (l : List UInt8) : bytesOf (ofB l) = l := lit_b l
def val (l : List UInt8) : Int := l.foldl (fun x b => x * 256 + (b.toNat : Int)) 0
def be : Nat → Int → List UInt8
 | 0, _ => []
 | n + 1, x => be n (x / 256) ++ [(x % 256).toNat.toUInt8]
inductive Rd (α : Type) where
 | ret (a : α)
 | rd (n : Nat) (k : List UInt8 → Rd α)
 | bad (e : Int) (k : Rd α)
section
variable {α : Type}
def num (n : Nat) (k : Int → Rd α) : Rd α := .rd n fun b => k (val b)
def many : Nat → List Int → (List Int → Rd α) → Rd α
 | 0, acc, k => k acc
 | m + 1, acc, k => num 4 fun x => many m (acc ++ [x]) k
end
end Go.Ab
end
section
namespace Go.Proofs
open Go.Ab
theorem nil_ofB : (⟨#[]⟩ : ByteArray) = ofB [] := rfl
theorem eqS_ofB (l : List UInt8) : eqS (ofB l) ⟨#[]⟩ = l.isEmpty := by
 rw [eqS_b, nil_ofB, ofB_b, ofB_b];cases l <;> simp
end Go.Proofs
end

/- What these functions compute, as plain functions. No condition. -/
import Derived.Test.YtpjplfnapgpfmaaGreatTs
import Derived.Test.YtpjplfnapgpfmaaGreatM13
import Derived.Test.YtpjplfnapgpfmaaGreatM04
import Derived.Test.YtpjplfnapgpfmaaGreatTy
import Derived.Test.YtpjplfnapgpfmaaGreatRt
import Derived.Test.YtpjplfnapgpfmaaGreatM09
import Derived.Test.YtpjplfnapgpfmaaGreatM03
import Derived.Test.YtpjplfnapgpfmaaGreatKl
section
namespace Go.Proofs
open Go.Ab
noncomputable def gay (x0 : Int) (x1 : Int) : Option Ts :=
 need (NonN 3) <|
 need (NonN 6) <|
 need (NonN 8) <|
 some (Ts.mk (addI .i64 1 (bitsOp .and .i64 x0 7)) (addI .i64 16 (bitsOp .and .i64 x1 63)) (addI .i64 1 (bitsOp .and .i64 (shrI .i64 x0 3) 31)) (addI .i64 1 (bitsOp .and .i64 (shrI .i64 x1 6) 31)) (addI .i64 1 (bitsOp .and .i64 (shrI .i64 x0 8) 3)))

noncomputable def gR.loop1 (x0 : List Tb) (x1 : List Tb) (s1 : Int) : Option (Fl Int (Fl Unit Int)) :=
 bif (ltI s1 (lenL x1)) then (
  need (InB s1 (lenL x0)) <|
  need (InB s1 (lenL x1)) <|
  need (Under (neI ((nthI x0 s1).fId) ((nthI x1 s1).fId)) false (InB s1 (lenL x0))) <|
  need (Under (neI ((nthI x0 s1).fId) ((nthI x1 s1).fId)) false (InB s1 (lenL x1))) <|
  bif (pickB (neI ((nthI x0 s1).fId) ((nthI x1 s1).fId)) true (notB (pickB (eqI ((nthI x0 s1).fI.fN) ((nthI x1 s1).fI.fN)) (pickB (eqI ((nthI x0 s1).fI.fj) ((nthI x1 s1).fI.fj)) (pickB (eqI ((nthI x0 s1).fI.fw) ((nthI x1 s1).fI.fw)) (eqB ((nthI x0 s1).fI.fy) ((nthI x1 s1).fI.fy)) false) false) false))) then (
   some (.out (.out (-1)))
  ) else (
    some (.go (addI .i64 s1 1))
  )
 ) else (
   some (.out (.go ()))
 )

noncomputable def gR (x0 : List Tb) (x1 : List Tb) : Option Int :=
 bif (neI (lenL x0) (lenL x1)) then (
  some (-1)
 ) else (
   ((loopF (gR.loop1 x0 x1) 0).bind fun f => flC f fun (_v1 : Unit) =>
     some 0
   )
 )

noncomputable def gaO (x0 : Ts) : Option (Tu × Bool) :=
 ((gaM x0)).bind fun r1 =>
 optC r1.1 (
  none
 ) fun o1 => (
   some ((Tu.mk o1 (Tc.mk x0.fe x0.fk x0.fq x0.fb x0.fo [] (Te.mk x0.fb [] 0 false) 0 0) 0 0), (pickB (eqI r1.2 0) true false))
 )
end Go.Proofs
end
section
namespace Go.Proofs
open Go.Ab
noncomputable def gT.loop1 (x0 : Te) (x1 : Int) (s1 : Int) : Option (Fl Int (Fl Unit Int)) :=
 bif (ltI s1 (lenL x0.fL)) then (
  need (InB s1 (lenL x0.fL)) <|
  bif (eqI ((nthI x0.fL s1).fId) x1) then (
   some (.out (.out s1))
  ) else (
    some (.go (addI .i64 s1 1))
  )
 ) else (
   some (.out (.go ()))
 )

noncomputable def gT (x0 : Te) (x1 : Int) : Option Int :=
 ((loopF (gT.loop1 x0 x1) 0).bind fun f => flC f fun (_v1 : Unit) =>
   some (-1)
 )

noncomputable def gax.loop1 (x0 : Te) (x1 : Int) (x2 : Int) (s1 : Int × Bool × List Td) : Option (Fl (Int × Bool × List Td) (Fl (Bool × List Td) (Te × Int))) :=
 bif (ltI s1.1 (lenL x0.fL)) then (
  need (InB s1.1 (lenL x0.fL)) <|
  ((
   bif (pickB (notB s1.2.1) (ltI x1 ((nthI x0.fL s1.1).fId)) false) then (
    need (AppB (lenL s1.2.2) 1 24) <|
    some (.go (true, (appL s1.2.2 [(Td.mk x1 x2 0)])))
   ) else (
     some (.go (s1.2.1, s1.2.2))
   )
   : Option (Fl (Bool × List Td) (Fl (Int × Bool × List Td) (Fl (Bool × List Td) (Te × Int))))).bind fun f => flC f fun (v2 : Bool × List Td) =>
   need (AppB (lenL v2.2) 1 24) <|
   some (.go ((addI .i64 s1.1 1), v2.1, (appL v2.2 [(nthI x0.fL s1.1)])))
  )
 ) else (
   some (.out (.go (s1.2.1, s1.2.2)))
 )

noncomputable def gax (x0 : Te) (x1 : Int) (x2 : Int) : Option (Te × Int) :=
 bif (pickB (ltI x2 x0.fb) true (ltI 16777216 x2)) then (
  some (x0, 5)
 ) else (
   ((gT x0 x1)).bind fun r1 =>
   bif (leqI 0 r1) then (
    some (x0, 10)
   ) else (
     ((loopF (gax.loop1 x0 x1 x2) (0, false, [])).bind fun f => flC f fun (v1 : Bool × List Td) =>
       ((
        bif (notB v1.1) then (
         need (AppB (lenL v1.2) 1 24) <|
         some (.go (appL v1.2 [(Td.mk x1 x2 0)]))
        ) else (
          some (.go v1.2)
        )
        : Option (Fl (List Td) (Te × Int))).bind fun f => flC f fun (v3 : List Td) =>
        some ((Te.mk x0.fb v3 x0.fAt x0.fg), 0)
       )
     )
   )
 )

noncomputable def gap (x0 : Te) (x1 : Int) : Option (Te × Int) :=
 ((gT x0 x1)).bind fun r1 =>
 bif (ltI r1 0) then (
  some (x0, 12)
 ) else (
   need (CutB 0 r1 (lenL x0.fL)) <|
   need (AppB 0 (lenL (cutL x0.fL 0 r1)) 24) <|
   need (CutB (addI .i64 r1 1) (lenL x0.fL) (lenL x0.fL)) <|
   need (AppB (lenL (cutL x0.fL 0 r1)) (lenL (cutL x0.fL (addI .i64 r1 1) (lenL x0.fL))) 24) <|
   ((
    bif (eqI x0.fAt x1) then (
     some (.go false)
    ) else (
      some (.go x0.fg)
    )
    : Option (Fl Bool (Te × Int))).bind fun f => flC f fun (v1 : Bool) =>
    some ((Te.mk x0.fb (appL (appL [] (cutL x0.fL 0 r1)) (cutL x0.fL (addI .i64 r1 1) (lenL x0.fL))) x0.fAt v1), 0)
   )
 )

noncomputable def gI.loop1 (x0 : Te) (x1 : List Tg) (x2 : Int) (s1 : Int × Int) : Option (Fl (Int × Int) (Fl Int Int)) :=
 bif (ltI s1.1 (lenL x1)) then (
  need (InB s1.1 (lenL x1)) <|
  bif (pickB (pickB (eqI ((nthI x1 s1.1).fId) x2) (leqI 0 ((nthI x1 s1.1).fj)) false) (leqI ((nthI x1 s1.1).fj) x0.fb) false) then (
   some (.go ((addI .i64 s1.1 1), (nthI x1 s1.1).fj))
  ) else (
    some (.go ((addI .i64 s1.1 1), s1.2))
  )
 ) else (
   some (.out (.go s1.2))
 )

noncomputable def gI (x0 : Te) (x1 : List Tg) (x2 : Int) : Option Int :=
 ((loopF (gI.loop1 x0 x1 x2) (0, (-1))).bind fun f => flC f fun (v1 : Int) =>
   some v1
 )

noncomputable def gt.loop1 (x0 : Te) (x1 : List Tg) (x2 : Int) (s1 : Int) : Option (Fl Int (Fl Unit Int)) :=
 bif (ltI s1 (lenL x0.fL)) then (
  need (InB s1 (lenL x0.fL)) <|
  need (Under (ltI x2 ((nthI x0.fL s1).fId)) true ((gI x0 x1 ((nthI x0.fL s1).fId)).isSome = true)) <|
  bif (pickB (ltI x2 ((nthI x0.fL s1).fId)) (leqI 0 ((gI x0 x1 ((nthI x0.fL s1).fId)).getD dflt)) false) then (
   some (.out (.out s1))
  ) else (
    some (.go (addI .i64 s1 1))
  )
 ) else (
   some (.out (.go ()))
 )

noncomputable def gt.loop2 (x0 : Te) (x1 : List Tg) (s2 : Int) : Option (Fl Int (Fl Unit Int)) :=
 bif (ltI s2 (lenL x0.fL)) then (
  need (InB s2 (lenL x0.fL)) <|
  ((gI x0 x1 ((nthI x0.fL s2).fId))).bind fun r1 =>
  bif (leqI 0 r1) then (
   some (.out (.out s2))
  ) else (
    some (.go (addI .i64 s2 1))
  )
 ) else (
   some (.out (.go ()))
 )

noncomputable def gt (x0 : Te) (x1 : List Tg) (x2 : Int) : Option Int :=
 ((loopF (gt.loop1 x0 x1 x2) 0).bind fun f => flC f fun (_v1 : Unit) =>
   ((loopF (gt.loop2 x0 x1) 0).bind fun f => flC f fun (_v2 : Unit) =>
     some (-1)
   )
 )

noncomputable def gg.loop1 (x0 : Te) (x1 : List Tg) (s1 : Int × List Td) : Option (Fl (Int × List Td) (Fl (List Td) (Te × Int × Bool))) :=
 bif (ltI s1.1 (lenL x0.fL)) then (
  need (InB s1.1 (lenL x0.fL)) <|
  need (InB s1.1 (lenL s1.2)) <|
  ((gI x0 x1 ((nthI s1.2 s1.1).fId))).bind fun r1 =>
  bif (ltI r1 0) then (
   need (InB s1.1 (lenL x0.fL)) <|
   need (InB s1.1 (lenL s1.2)) <|
   some (.go ((addI .i64 s1.1 1), (setI s1.2 s1.1 (Td.mk ((nthI s1.2 s1.1).fId) ((nthI s1.2 s1.1).fm) 0))))
  ) else (
    some (.go ((addI .i64 s1.1 1), s1.2))
  )
 ) else (
   some (.out (.go s1.2))
 )

noncomputable def gg.loop3 (x0 : Te) (x1 : List Tg) (s3 : Int × Int × Int × Bool × List Td) : Option (Fl (Int × Int × Int × Bool × List Td) (Fl (Int × Bool × List Td) (Te × Int × Bool))) :=
 bif (ltI s3.1 1000) then (
  ((
   need (InB s3.2.1 (lenL x0.fL)) <|
   need (InB s3.2.1 (lenL s3.2.2.2.2)) <|
   ((
    bif (notB s3.2.2.2.1) then (
     need (InB s3.2.1 (lenL x0.fL)) <|
     need (InB s3.2.1 (lenL s3.2.2.2.2)) <|
     need (InB s3.2.1 (lenL x0.fL)) <|
     need (InB s3.2.1 (lenL s3.2.2.2.2)) <|
     need (InB s3.2.1 (lenL x0.fL)) <|
     need (InB s3.2.1 (lenL s3.2.2.2.2)) <|
     some (.go (true, (setI s3.2.2.2.2 s3.2.1 (Td.mk ((nthI s3.2.2.2.2 s3.2.1).fId) ((nthI s3.2.2.2.2 s3.2.1).fm) (addI .i64 ((nthI s3.2.2.2.2 s3.2.1).fp) ((nthI s3.2.2.2.2 s3.2.1).fm))))))
    ) else (
      some (.go (s3.2.2.2.1, s3.2.2.2.2))
    )
    : Option (Fl (Bool × List Td) (Fl (Int × List Td) (Fl (Int × Int × Int × Bool × List Td) (Fl (Int × Bool × List Td) (Te × Int × Bool)))))).bind fun f => flC f fun (v5 : Bool × List Td) =>
    need (InB s3.2.1 (lenL x0.fL)) <|
    need (InB s3.2.1 (lenL v5.2)) <|
    need ((lenL v5.2) = (lenL x0.fL)) <|
    ((gI (Te.mk x0.fb v5.2 ((nthI s3.2.2.2.2 s3.2.1).fId) v5.1) x1 ((nthI s3.2.2.2.2 s3.2.1).fId))).bind fun r5 =>
    bif (leqI r5 ((nthI v5.2 s3.2.1).fp)) then (
     need ((lenL v5.2) = (lenL x0.fL)) <|
     some (.out (.out (.out ((Te.mk x0.fb v5.2 ((nthI s3.2.2.2.2 s3.2.1).fId) v5.1), (nthI s3.2.2.2.2 s3.2.1).fId, true))))
    ) else (
      need ((lenL v5.2) = (lenL x0.fL)) <|
      ((gt (Te.mk x0.fb v5.2 ((nthI s3.2.2.2.2 s3.2.1).fId) v5.1) x1 ((nthI s3.2.2.2.2 s3.2.1).fId))).bind fun r6 =>
      some (.go (r6, v5.2))
    )
   )
   : Option (Fl (Int × List Td) (Fl (Int × Int × Int × Bool × List Td) (Fl (Int × Bool × List Td) (Te × Int × Bool))))).bind fun f => flC f fun (v4 : Int × List Td) =>
   some (.go ((addI .i64 s3.1 1), v4.1, (nthI s3.2.2.2.2 s3.2.1).fId, false, v4.2))
  )
 ) else (
   some (.out (.go (s3.2.2.1, s3.2.2.2.1, s3.2.2.2.2)))
 )

noncomputable def gg (x0 : Te) (x1 : List Tg) : Option (Te × Int × Bool) :=
 need (AppB 0 (lenL x0.fL) 24) <|
 ((loopF (gg.loop1 x0 x1) (0, x0.fL)).bind fun f => flC f fun (v1 : List Td) =>
   need ((lenL v1) = (lenL x0.fL)) <|
   ((gt (Te.mk x0.fb v1 x0.fAt x0.fg) x1 0)).bind fun r2 =>
   bif (ltI r2 0) then (
    need ((lenL v1) = (lenL x0.fL)) <|
    some ((Te.mk x0.fb v1 x0.fAt false), 0, false)
   ) else (
     need ((lenL v1) = (lenL x0.fL)) <|
     ((gT (Te.mk x0.fb v1 x0.fAt x0.fg) x0.fAt)).bind fun r3 =>
     ((
      need (Under (ltI r3 0) false ((lenL v1) = (lenL x0.fL))) <|
      need (Under (ltI r3 0) false ((gI (Te.mk x0.fb v1 x0.fAt x0.fg) x1 x0.fAt).isSome = true)) <|
      bif (pickB (ltI r3 0) true (ltI ((gI (Te.mk x0.fb v1 x0.fAt x0.fg) x1 x0.fAt).getD dflt) 0)) then (
       need ((lenL v1) = (lenL x0.fL)) <|
       ((gt (Te.mk x0.fb v1 x0.fAt x0.fg) x1 x0.fAt)).bind fun r4 =>
       some (.go (r4, false))
      ) else (
        some (.go (r3, x0.fg))
      )
      : Option (Fl (Int × Bool) (Te × Int × Bool))).bind fun f => flC f fun (v2 : Int × Bool) =>
      ((loopF (gg.loop3 x0 x1) (0, v2.1, x0.fAt, v2.2, v1)).bind fun f => flC f fun (v3 : Int × Bool × List Td) =>
        need ((lenL v3.2.2) = (lenL x0.fL)) <|
        some ((Te.mk x0.fb v3.2.2 v3.1 v3.2.1), 0, false)
      )
     )
   )
 )

noncomputable def gaA (x0 : Te) (x1 : Int) : Option Te :=
 ((gT x0 x0.fAt)).bind fun r1 =>
 need (Under (pickB (pickB (notB x0.fg) true (ltI r1 0)) true (ltI x1 0)) false (InB r1 (lenL x0.fL))) <|
 bif (pickB (pickB (pickB (notB x0.fg) true (ltI r1 0)) true (ltI x1 0)) true (ltI ((nthI x0.fL r1).fp) x1)) then (
  some x0
 ) else (
   need (AppB 0 (lenL x0.fL) 24) <|
   need (InB r1 (lenL x0.fL)) <|
   need (InB r1 (lenL x0.fL)) <|
   some (Te.mk x0.fb (setI x0.fL r1 (Td.mk ((nthI x0.fL r1).fId) ((nthI x0.fL r1).fm) (subI .i64 ((nthI x0.fL r1).fp) x1))) x0.fAt x0.fg)
 )
end Go.Proofs
end
section
namespace Go.Proofs
open Go.Ab
@[simp] def gaW.out  (r : Bool) : Out := { av := .lit (.bool r), M := none }
set_option maxHeartbeats 4000000 in
set_option maxRecDepth 100000 in
theorem gaW.can  (r : Bool) (hr : gaW = some r) : CallOk Tryz.prog 5 [] [] (gaW.out  r) := by
 unfold gaW at hr
 have hΓ := (gamL_cons gM.ok (gamL_cons gah.ok (gamL_cons gaz.ok (gamL_cons gaB.ok (gamL_cons gaF.ok (gamL_nil))))) : GamOk Tryz.prog _)
 refine cw Tryz.func5 rfl (by kernel_rfl) rfl rfl (by simp) fun _ _ _ => ?_
 refine tq hΓ [] [] ?_
 refine tq hΓ [1] [] ?_
 obtain ⟨r1, h7, hr⟩ := Lb hr
 obtain ⟨r2, h8, hr⟩ := Lb hr
 refine tq hΓ [2, 3] [1] ?_ (by simp [h7, h8]; exact rr)
 obtain ⟨r3, h9, hr⟩ := Lb hr
 refine tq hΓ [4] [] ?_ (by simp [h9]; exact rr)
 obtain ⟨h10, hr⟩ := Lc hr
 obtain ⟨h11, hr⟩ := Lc hr
 obtain ⟨h12, hr⟩ := Lc hr
 refine tq hΓ [0] [4, 2, 3] ?_ (by simp [h10, h11, h12]; exact rr)
 obtain rfl := La hr
 exact AWp.ret (Le (by simp))

@[simp] noncomputable def gaW.S : Sp
  | [], _ => some { av := .lit (.bool (gaW.getD dflt)), M := none, obl := gaW.isSome = true }
  | _, _ => none

set_option maxHeartbeats 1000000 in
theorem gaW.ok : SpecOk Tryz.prog 5 gaW.S := by
 intro l M out h
 unfold gaW.S at h
 split at h
 ·cases h
  refine callOk_of fun ho => ?_
  have hs := ho
  obtain ⟨r, hr⟩ := so1 hs
  simp only [hr, gd1]
  have q := Lg (M := M) [] (gaW.can r hr) (by simp) rfl ixn
  exact callOk_conv q trivial (by simp) (by simp [frameOut]) (by simp [frameOut])
 ·cases h
end Go.Proofs
end
section
namespace Go.Proofs
open Go.Ab
variable {V : Type}

theorem hasM_iff {k : Int} : ∀ {m : List (Int × V)}, hasM eqI k m = true ↔ k ∈ keysM m
 | [] => by simp [hasM, keysM]
 | e :: r => by
   have ih := hasM_iff (k := k) (m := r)
   simp only [hasM, keysM, List.map_cons, List.mem_cons]
   by_cases h : k = e.1
   ·rw [eqI_t h]; simp [pickB, h]
   ·rw [eqI_f h]; simp only [pickB, cond_false, h, false_or]; exact ih
theorem hasM_t {k : Int} {m : List (Int × V)} (h : k ∈ keysM m) : hasM eqI k m = true := hasM_iff.2 h
theorem hasM_f {k : Int} {m : List (Int × V)} (h : k ∉ keysM m) : hasM eqI k m = false := by
 cases hh : hasM eqI k m with
 | false => rfl
 | true => exact absurd (hasM_iff.1 hh) h

theorem getM_of {k : Int} {v z : V} : ∀ {m : List (Int × V)}, (keysM m).Nodup → (k, v) ∈ m → getM eqI k z m = v
 | e :: r, hn, h => by
   simp only [keysM, List.map_cons, List.nodup_cons] at hn
   simp only [getM]
   cases h with
   | head => rw [eqI_t rfl]; rfl
   | tail _ h =>
     have hne : k ≠ e.1 := fun q => hn.1 (List.mem_map.2 ⟨(k, v), h, q⟩)
     rw [eqI_f hne]
     simp only [Bool.false_eq_true, if_false]
     exact getM_of hn.2 h
theorem getM_no {k : Int} {z : V} : ∀ {m : List (Int × V)}, k ∉ keysM m → getM eqI k z m = z
 | [], _ => rfl
 | e :: r, h => by
   simp only [keysM, List.map_cons, List.mem_cons, not_or] at h
   simp only [getM, eqI_f h.1, Bool.false_eq_true, if_false]
   exact getM_no h.2

theorem setM_no {k : Int} {v : V} : ∀ {m : List (Int × V)}, k ∉ keysM m → setM eqI k v m = m ++ [(k, v)]
 | [], _ => rfl
 | e :: r, h => by
   simp only [keysM, List.map_cons, List.mem_cons, not_or] at h
   simp only [setM, eqI_f h.1, Bool.false_eq_true, if_false, List.cons_append]
   rw [setM_no h.2]

theorem delM_perm {k : Int} {v : V} : ∀ {m : List (Int × V)}, (keysM m).Nodup → (k, v) ∈ m → m.Perm ((k, v) :: delM eqI k m)
 | e :: r, hn, h => by
   simp only [keysM, List.map_cons, List.nodup_cons] at hn
   simp only [delM]
   cases h with
   | head => rw [eqI_t rfl]; exact List.Perm.refl _
   | tail _ h =>
     have hne : k ≠ e.1 := fun q => hn.1 (List.mem_map.2 ⟨(k, v), h, q⟩)
     rw [eqI_f hne]
     simp only [Bool.false_eq_true, if_false]
     exact ((delM_perm hn.2 h).cons e).trans (List.Perm.swap _ _ _)
theorem delM_of {k : Int} {v : V} {m r : List (Int × V)} (hn : (keysM m).Nodup) (hp : m.Perm ((k, v) :: r)) : (delM eqI k m).Perm r :=
 ((delM_perm hn (hp.mem_iff.2 (.head _))).symm.trans hp).cons_inv
theorem keysM_perm {m m' : List (Int × V)} (h : m.Perm m') : (keysM m).Perm (keysM m') := h.map _
theorem sortL_of {l l' : List Int} (h : l.Perm l') (hs : l'.Pairwise (· ≤ ·)) : sortL l = l' := by
 unfold sortL
 refine List.Perm.eq_of_pairwise (le := fun a b => a ≤ b) (fun a b _ _ h1 h2 => Int.le_antisymm h1 h2) ?_ hs ((List.mergeSort_perm l _).trans h)
 have := List.pairwise_mergeSort (le := fun x y : Int => decide (x ≤ y)) (fun a b c h1 h2 => by simp only [decide_eq_true_eq] at *; omega) (fun a b => by simp only [Bool.or_eq_true, decide_eq_true_eq]; omega) l
 exact this.imp fun h => by simpa using h
theorem KeysB_of {l : List Int} (h : ∀ x ∈ l, -9223372036854775808 ≤ x ∧ x ≤ 9223372036854775807) (hl : l.length ≤ 1000000000000) : KeysB l :=
 ⟨fun x hx => by
  obtain ⟨h1, h2⟩ := h x hx
  simp only [Lit.wf, Bool.and_eq_true, decide_eq_true_eq]
  exact ⟨h1, h2⟩, by omega⟩
end Go.Proofs
end

/- What these functions compute, as plain functions. No condition. -/
import Derived.Test.YtbijdlgffebenaaGreatTs
import Derived.Test.YtbijdlgffebenaaGreatM09
import Derived.Test.YtbijdlgffebenaaGreatM06
import Derived.Test.YtbijdlgffebenaaGreatM03
section
namespace Go.Proofs
open Go.Ab
noncomputable def gI (x0 : Tn) : Option Int :=
 some (lenL x0.fv.fj)

noncomputable def gad (x0 : Tn) : Option (Int × Int) :=
 some (x0.fy, x0.fe)

noncomputable def gJ (x0 : Tl) : Option Bool :=
 need (Under (ltI 0 (lenL x0.fj)) true (InB 0 (lenL x0.fj))) <|
 some (pickB (ltI 0 (lenL x0.fj)) ((nthI x0.fj 0).fJ) false)

noncomputable def gq.loop1 (x0 : Tl) (s1 : Int × Int) : Option (Fl (Int × Int) (Fl Int Int)) :=
 bif (ltI s1.1 (lenL x0.fj)) then (
  need (InB s1.1 (lenL x0.fj)) <|
  some (.go ((addI .i64 s1.1 1), (addI .i64 s1.2 (lenS ((nthI x0.fj s1.1).fU)))))
 ) else (
  some (.out (.go s1.2))
 )

noncomputable def gq (x0 : Tl) : Option Int :=
 ((loopF (gq.loop1 x0) (0, 0)).bind fun f => flC f fun (v1 : Int) =>
  some v1
 )

noncomputable def gQ (x0 : Tu) : Option Int :=
 bif (pickB (pickB (pickB (pickB (pickB (ltI x0.fw 1) true (ltI 1048576 x0.fw)) true (ltI x0.fj 1)) true (ltI 1024 x0.fj)) true (ltI x0.fp 0)) true (ltI 1099511627776 x0.fp)) then (
  some 5
 ) else (
  some 0
 )

noncomputable def gN (x0 : Tn) : Option Tn :=
 ((gI x0)).bind fun r1 =>
 some (Tn.mk x0.fb (Tl.mk []) x0.fy (addI .i64 x0.fe r1))

noncomputable def gO (x0 : Tn) (x1 : Tc) : Option Bool :=
 ((gI x0)).bind fun r1 =>
 bif (eqI r1 0) then (
  some false
 ) else (
  need (InB (subI .i64 r1 1) (lenL x0.fv.fj)) <|
  some (pickB (pickB (eqI x1.fAt (addI .i64 ((nthI x0.fv.fj (subI .i64 r1 1)).fAt) 1)) (eqI x1.fT ((nthI x0.fv.fj (subI .i64 r1 1)).fT)) false) (notB x1.fz) false)
 )

noncomputable def gaA (x0 : Tu) : Option (Option Tn × Int) :=
 ((gQ x0)).bind fun r1 =>
 bif (neI r1 0) then (
  some (none, r1)
 ) else (
  some ((some (Tn.mk x0 (Tl.mk []) 0 0)), 0)
 )

noncomputable def gY (x0 : Tn) (x1 : Int) : Option (Bool × Tn) :=
 ((gI x0)).bind fun r1 =>
 need (Under (eqI r1 0) false (InB 0 (lenL x0.fv.fj))) <|
 bif (pickB (eqI r1 0) true (ltI (subI .i64 x1 ((nthI x0.fv.fj 0).fO)) x0.fb.fp)) then (
  some (false, x0)
 ) else (
  ((gN x0)).bind fun r2 =>
  some (true, r2)
 )

noncomputable def gac (x0 : Tn) (x1 : Tc) : Option (Tl × Bool × Tn) :=
 ((
  ((gO x0 x1)).bind fun r1 =>
  bif (notB r1) then (
   ((gN x0)).bind fun r2 =>
   bif (pickB r2.fb.fu (notB x1.fz) false) then (
    some (.out ((Tl.mk []), false, (Tn.mk r2.fb r2.fv r2.fy (addI .i64 r2.fe 1))))
   ) else (
    some (.go r2)
   )
  ) else (
   some (.go x0)
  )
  : Option (Fl Tn (Tl × Bool × Tn))).bind fun f => flC f fun (v1 : Tn) =>
  need (AppB 0 (lenL v1.fv.fj) 48) <|
  need (AppB (lenL v1.fv.fj) 1 48) <|
  ((gI (Tn.mk v1.fb (Tl.mk (appL v1.fv.fj [x1])) v1.fy v1.fe))).bind fun r3 =>
  need (Under (ltI v1.fb.fj r3) false ((gq (Tl.mk (appL v1.fv.fj [x1]))).isSome = true)) <|
  bif (pickB (ltI v1.fb.fj r3) true (ltI v1.fb.fw ((gq (Tl.mk (appL v1.fv.fj [x1]))).getD dflt))) then (
   ((gN (Tn.mk v1.fb (Tl.mk (appL v1.fv.fj [x1])) v1.fy v1.fe))).bind fun r4 =>
   some ((Tl.mk []), false, r4)
  ) else (
   bif (pickB v1.fb.fu (notB x1.fC) false) then (
    some ((Tl.mk []), false, (Tn.mk v1.fb (Tl.mk (appL v1.fv.fj [x1])) v1.fy v1.fe))
   ) else (
    some ((Tl.mk (appL v1.fv.fj [x1])), true, (Tn.mk v1.fb (Tl.mk []) (addI .i64 v1.fy 1) v1.fe))
   )
  )
 )
end Go.Proofs
end
section
namespace Go.Proofs
open Go.Ab
noncomputable def gy (x0 : List Int) : Option (List Int) :=
 need (CutB 0 (lenL x0) (lenL x0)) <|
 some (cutL x0 0 (lenL x0))

noncomputable def gan (x0 : Ty) : Option (Option Tf × Int) :=
 ((gaq x0.fm)).bind fun r1 =>
 optC r1.1 (
  bif (neI r1.2 0) then (
   some (none, r1.2)
  ) else (
   ((gaA x0.fM)).bind fun r2 =>
   optC r2.1 (
    bif (neI r2.2 0) then (
     some (none, r2.2)
    ) else (
     none
    )
   ) fun _o2 => (
    bif (neI r2.2 0) then (
     some (none, r2.2)
    ) else (
     none
    )
   )
  )
 ) fun o1 => (
  bif (neI r1.2 0) then (
   some (none, r1.2)
  ) else (
   ((gaA x0.fM)).bind fun r2 =>
   optC r2.1 (
    bif (neI r2.2 0) then (
     some (none, r2.2)
    ) else (
     none
    )
   ) fun o2 => (
    bif (neI r2.2 0) then (
     some (none, r2.2)
    ) else (
     some ((some (Tf.mk o1 o2 (Tx.mk false 0 0 0 0) (Tw.mk false 0) [] 0 0)), 0)
    )
   )
  )
 )

noncomputable def gv (x0 : Tf) : Option Int :=
 some x0.fq

noncomputable def gC (x0 : Tf) : Option (Int × Int) :=
 ((gad x0.fc)).bind fun r1 =>
 some (r1.1, r1.2)

noncomputable def gu (x0 : Tf) : Option Int :=
 some x0.fo

noncomputable def gF (x0 : Tf) (x1 : Ta) : Option (Tc × Tf) :=
 ((gi (Tf.mk x0.fa x0.fc x0.ff x0.fh (delM eqI x1.fAt x0.fOf) x0.fq x0.fo) ((getM eqI x1.fAt (Tb.mk false 0 0 0 0 [] false 0 ⟨⟨[]⟩⟩ ⟨⟨[]⟩⟩ 0) x0.fOf).fT))).bind fun r1 =>
 ((
  ((gas ((getM eqI x1.fAt (Tb.mk false 0 0 0 0 [] false 0 ⟨⟨[]⟩⟩ ⟨⟨[]⟩⟩ 0) x0.fOf).fF))).bind fun r2 =>
  bif (pickB r1.2.fc.fb.fu (eqI r2.2.2 0) false) then (
   ((gav r2.1 r2.2.1)).bind fun r3 =>
   some (.go (Tc.mk x1.fAt r1.1 ((getM eqI x1.fAt (Tb.mk false 0 0 0 0 [] false 0 ⟨⟨[]⟩⟩ ⟨⟨[]⟩⟩ 0) x0.fOf).fC) (pickB r2.1.fz (eqI r2.1.fD 0) false) r3 ((getM eqI x1.fAt (Tb.mk false 0 0 0 0 [] false 0 ⟨⟨[]⟩⟩ ⟨⟨[]⟩⟩ 0) x0.fOf).fF) x1.fO))
  ) else (
   some (.go (Tc.mk x1.fAt r1.1 ((getM eqI x1.fAt (Tb.mk false 0 0 0 0 [] false 0 ⟨⟨[]⟩⟩ ⟨⟨[]⟩⟩ 0) x0.fOf).fC) false false ((getM eqI x1.fAt (Tb.mk false 0 0 0 0 [] false 0 ⟨⟨[]⟩⟩ ⟨⟨[]⟩⟩ 0) x0.fOf).fF) x1.fO))
  )
  : Option (Fl Tc (Tc × Tf))).bind fun f => flC f fun (v1 : Tc) =>
  some (v1, r1.2)
 )

noncomputable def gc.loop1 (x1 : List Ta) (s1 : Int × Tx × Tw × Int × Int × Tt × Bool × Int × Int × (List (Int × Ta)) × Tn × (List (Int × Tb)) × List Tl) : Option (Fl (Int × Tx × Tw × Int × Int × Tt × Bool × Int × Int × (List (Int × Ta)) × Tn × (List (Int × Tb)) × List Tl) (Fl (List Tl × Tx × Tw × Int × Int × Tt × Bool × Int × Int × (List (Int × Ta)) × Tn × (List (Int × Tb))) (List Tl × Tf))) :=
 bif (ltI s1.1 (lenL x1)) then (
  need (InB s1.1 (lenL x1)) <|
  ((gF (Tf.mk (Th.mk s1.2.2.2.2.2.1 s1.2.2.2.2.2.2.1 s1.2.2.2.2.2.2.2.1 s1.2.2.2.2.2.2.2.2.2.1 s1.2.2.2.2.2.2.2.2.1) s1.2.2.2.2.2.2.2.2.2.2.1 s1.2.1 s1.2.2.1 s1.2.2.2.2.2.2.2.2.2.2.2.1 s1.2.2.2.1 s1.2.2.2.2.1) (nthI x1 s1.1))).bind fun r1 =>
  ((gac r1.2.fc r1.1)).bind fun r2 =>
  bif (notB r2.2.1) then (
   some (.go ((addI .i64 s1.1 1), r1.2.ff, r1.2.fh, r1.2.fq, r1.2.fo, r1.2.fa.fb, r1.2.fa.fd, r1.2.fa.fg, r1.2.fa.fe, r1.2.fa.fOf, r2.2.2, r1.2.fOf, s1.2.2.2.2.2.2.2.2.2.2.2.2))
  ) else (
   ((
    ((gJ r2.1)).bind fun r3 =>
    bif r3 then (
     some (.go (addI .i64 r1.2.fo 1))
    ) else (
     some (.go r1.2.fo)
    )
    : Option (Fl Int (Fl (Int × Tx × Tw × Int × Int × Tt × Bool × Int × Int × (List (Int × Ta)) × Tn × (List (Int × Tb)) × List Tl) (Fl (List Tl × Tx × Tw × Int × Int × Tt × Bool × Int × Int × (List (Int × Ta)) × Tn × (List (Int × Tb))) (List Tl × Tf))))).bind fun f => flC f fun (v2 : Int) =>
    need (AppB (lenL s1.2.2.2.2.2.2.2.2.2.2.2.2) 1 24) <|
    some (.go ((addI .i64 s1.1 1), r1.2.ff, r1.2.fh, r1.2.fq, v2, r1.2.fa.fb, r1.2.fa.fd, r1.2.fa.fg, r1.2.fa.fe, r1.2.fa.fOf, r2.2.2, r1.2.fOf, (appL s1.2.2.2.2.2.2.2.2.2.2.2.2 [r2.1])))
   )
  )
 ) else (
  some (.out (.go (s1.2.2.2.2.2.2.2.2.2.2.2.2, s1.2.1, s1.2.2.1, s1.2.2.2.1, s1.2.2.2.2.1, s1.2.2.2.2.2.1, s1.2.2.2.2.2.2.1, s1.2.2.2.2.2.2.2.1, s1.2.2.2.2.2.2.2.2.1, s1.2.2.2.2.2.2.2.2.2.1, s1.2.2.2.2.2.2.2.2.2.2.1, s1.2.2.2.2.2.2.2.2.2.2.2.1)))
 )

noncomputable def gc (x0 : Tf) (x1 : List Ta) : Option (List Tl × Tf) :=
 ((loopF (gc.loop1 x1) (0, x0.ff, x0.fh, x0.fq, x0.fo, x0.fa.fb, x0.fa.fd, x0.fa.fg, x0.fa.fe, x0.fa.fOf, x0.fc, x0.fOf, [])).bind fun f => flC f fun (v1 : List Tl × Tx × Tw × Int × Int × Tt × Bool × Int × Int × (List (Int × Ta)) × Tn × (List (Int × Tb))) =>
  some (v1.1, (Tf.mk (Th.mk v1.2.2.2.2.2.1 v1.2.2.2.2.2.2.1 v1.2.2.2.2.2.2.2.1 v1.2.2.2.2.2.2.2.2.2.1 v1.2.2.2.2.2.2.2.2.1) v1.2.2.2.2.2.2.2.2.2.2.1 v1.2.1 v1.2.2.1 v1.2.2.2.2.2.2.2.2.2.2.2 v1.2.2.2.1 v1.2.2.2.2.1))
 )

noncomputable def gr (x0 : Tf) (x1 : Tb) (x2 : Int) : Option (List Tl × Int × Tf) :=
 ((ge x0 x1.ff)).bind fun r1 =>
 bif (notB r1.2.1) then (
  some ([], 13, (Tf.mk r1.2.2.fa r1.2.2.fc r1.2.2.ff r1.2.2.fh r1.2.2.fOf (addI .i64 r1.2.2.fq 1) r1.2.2.fo))
 ) else (
  ((
   bif (eqS x1.fF ⟨#[]⟩) then (
    some (.go (Tb.mk false x1.fac x1.ff x1.fT x1.fad x1.fab x1.faf x1.fZ x1.fae x1.fF x1.faa))
   ) else (
    some (.go x1)
   )
   : Option (Fl Tb (List Tl × Int × Tf))).bind fun f => flC f fun (v1 : Tb) =>
   ((
    bif (notB (hasM eqI r1.1 r1.2.2.fOf)) then (
     some (.go (setM eqI r1.1 v1 r1.2.2.fOf))
    ) else (
     some (.go r1.2.2.fOf)
    )
    : Option (Fl (List (Int × Tb)) (List Tl × Int × Tf))).bind fun f => flC f fun (v2 : (List (Int × Tb))) =>
    ((gp r1.2.2.fa (Ta.mk r1.1 ⟨#[]⟩ x2))).bind fun r2 =>
    bif (neI r2.2.1 0) then (
     ((
      bif (eqI r2.2.1 13) then (
       some (.go (delM eqI r1.1 v2))
      ) else (
       some (.go v2)
      )
      : Option (Fl (List (Int × Tb)) (List Tl × Int × Tf))).bind fun f => flC f fun (v3 : (List (Int × Tb))) =>
      some ([], r2.2.1, (Tf.mk r2.2.2 r1.2.2.fc r1.2.2.ff r1.2.2.fh v3 (addI .i64 r1.2.2.fq 1) r1.2.2.fo))
     )
    ) else (
     ((gc (Tf.mk r2.2.2 r1.2.2.fc r1.2.2.ff r1.2.2.fh v2 r1.2.2.fq r1.2.2.fo) r2.1)).bind fun r3 =>
     some (r3.1, 0, r3.2)
    )
   )
  )
 )

noncomputable def gL (x0 : Tf) (x1 : Int) : Option (List Tl × Tf) :=
 ((gm x0.fa x1)).bind fun r1 =>
 ((gc (Tf.mk r1.2 x0.fc x0.ff x0.fh x0.fOf x0.fq x0.fo) r1.1)).bind fun r2 =>
 ((gY r2.2.fc x1)).bind fun r3 =>
 some (r2.1, (Tf.mk r2.2.fa r3.2 r2.2.ff r2.2.fh r2.2.fOf r2.2.fq r2.2.fo))

noncomputable def gj.loop1 (r1 : List Int) (s1 : Int × List Int) : Option (Fl (Int × List Int) (Fl (List Int) (List Int))) :=
 bif (ltI s1.1 (lenL r1)) then (
  need (InB s1.1 (lenL r1)) <|
  need (AppB (lenL s1.2) 1 2) <|
  some (.go ((addI .i64 s1.1 1), (appL s1.2 [(cvtI .u16 (nthI r1 s1.1))])))
 ) else (
  some (.out (.go s1.2))
 )

noncomputable def gj (x0 : Tf) (x1 : Int) : Option (List Int) :=
 ((ga x0.fa x1)).bind fun r1 =>
 ((loopF (gj.loop1 r1) (0, [])).bind fun f => flC f fun (v1 : List Int) =>
  ((gy v1)).bind fun r2 =>
  some r2
 )
end Go.Proofs
end
section
namespace Go.Proofs
open Go.Ab

def sizeN : List Tc → Int
  | [] => 0
  | u :: r => lenS u.fU + sizeN r
theorem lenS_nn (s : ByteArray) : 0 ≤ lenS s := by unfold lenS; omega
theorem sizeN_nn : ∀ us, 0 ≤ sizeN us
  | [] => by simp [sizeN]
  | u :: r => by have := sizeN_nn r; have := lenS_nn u.fU; unfold sizeN; omega
theorem sizeN_app (a b : List Tc) : sizeN (a ++ b) = sizeN a + sizeN b := by
  induction a with
  | nil => simp [sizeN]
  | cons u r ih => simp only [List.cons_append, sizeN, ih]; omega

def sizeI (us : List Tc) (s : Int × Int) : Prop := 0 ≤ s.1 ∧ s.1 ≤ lenL us ∧ s.2 = sizeN (us.take s.1.toNat)
theorem take_snoc (us : List Tc) (i : Int) (h0 : 0 ≤ i) (h : i < lenL us) : us.take (i + 1).toNat = us.take i.toNat ++ [nthI us i] := by
  unfold lenL at h
  have e : (i + 1).toNat = i.toNat + 1 := by omega
  rw [e, List.take_succ_eq_append_getElem (by omega)]
  unfold nthI
  rw [List.getD_eq_getElem?_getD, List.getElem?_eq_getElem (by omega)]
  rfl
theorem sizeN_take (us : List Tc) (n : Nat) : sizeN (us.take n) ≤ sizeN us := by
  have h := sizeN_app (us.take n) (us.drop n)
  rw [List.take_append_drop] at h
  have := sizeN_nn (us.drop n)
  omega
theorem size_round (us : List Tc) (hb : sizeN us < 9223372036854775808) (hl : lenL us < 9223372036854775807) (s : Int × Int) (hI : sizeI us s) :
    RoundP (sizeI us) (fun t : Fl Int Int => t = .go (sizeN us)) (fun s => (lenL us - s.1).toNat) s (gq.loop1 ⟨us⟩ s) := by
  obtain ⟨i, n⟩ := s
  obtain ⟨h0, h1, h2⟩ := hI
  simp only at h0 h1 h2
  unfold gq.loop1
  dsimp only
  by_cases hc : i < lenL us
  case neg =>
    rw [ltI_d, decide_eq_false hc, cond_false]
    show Fl.go n = Fl.go _
    rw [h2, List.take_of_length_le (by unfold lenL at hc; omega)]
  rw [show ltI i (lenL us) = true from decide_eq_true hc, cond_true, Lk (show InB i (lenL us) from ⟨h0, hc⟩)]
  have e := take_snoc us i h0 hc
  have e2 := sizeN_app (us.take i.toNat) [nthI us i]
  rw [← e] at e2
  have e3 : sizeN [nthI us i] = lenS (nthI us i).fU := by simp [sizeN]
  have e4 := sizeN_take us (i + 1).toNat
  have e5 := sizeN_nn (us.take i.toNat)
  have e6 := lenS_nn (nthI us i).fU
  rw [addI_n (a := i) (by omega) (by omega), addI_n (a := n) (by omega) (by omega)]
  exact ⟨⟨by dsimp only; omega, by dsimp only; omega, by dsimp only; omega⟩, by dsimp only; omega⟩
theorem size_eq (us : List Tc) (hb : sizeN us < 9223372036854775808) (hl : lenL us < 9223372036854775807) : gq ⟨us⟩ = some (sizeN us) := by
  unfold gq
  have hnn : 0 ≤ lenL us := by unfold lenL; omega
  obtain ⟨t, ht, rfl⟩ := loop_ends (sizeI us) _ _ (size_round us hb hl) (0, 0) ⟨by simp, by simpa using hnn, by simp [sizeN]⟩
  rw [ht]; rfl

theorem open_eq (m : Tn) : gI m = some (lenL m.fv.fj) := rfl
theorem frame_check (c : Tu) (h : 1 ≤ c.fw ∧ c.fw ≤ 1048576 ∧ 1 ≤ c.fj ∧ c.fj ≤ 1024 ∧ 0 ≤ c.fp ∧ c.fp ≤ 1099511627776) : gQ c = some 0 := by
  unfold gQ
  simp only [pickB_or, ltI_d]
  have e : (decide (c.fw < 1) || decide (1048576 < c.fw) || decide (c.fj < 1) || decide (1024 < c.fj) || decide (c.fp < 0) || decide (1099511627776 < c.fp)) = false := by
    simp; omega
  rw [e]; rfl
theorem frame_new (c : Tu) (h : 1 ≤ c.fw ∧ c.fw ≤ 1048576 ∧ 1 ≤ c.fj ∧ c.fj ≤ 1024 ∧ 0 ≤ c.fp ∧ c.fp ≤ 1099511627776) : gaA c = some (some (.mk c ⟨[]⟩ 0 0), 0) := by
  unfold gaA
  rw [frame_check c h]; rfl

end Go.Proofs
end

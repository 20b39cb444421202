/- What these functions compute, as plain functions. No condition. -/
import Derived.Test.YtpjplfnapgpfmaaGreatTs
import Derived.Test.YtpjplfnapgpfmaaGreatM06
import Derived.Test.YtpjplfnapgpfmaaGreatM02
import Derived.Test.YtpjplfnapgpfmaaGreatYt
section
namespace Go.Proofs
open Go.Ab
noncomputable def gH.loop1 (x0 : Tc) (x1 : Int) (s1 : Int) : Option (Fl Int (Fl Unit Int)) :=
 bif (ltI s1 (lenL x0.fL)) then (
  need (InB s1 (lenL x0.fL)) <|
  bif (eqI ((nthI x0.fL s1).fId) x1) then (
   some (.out (.out s1))
  ) else (
    some (.go (addI .i64 s1 1))
  )
 ) else (
   some (.out (.go ()))
 )

noncomputable def gH (x0 : Tc) (x1 : Int) : Option Int :=
 ((loopF (gH.loop1 x0 x1) 0).bind fun f => flC f fun (_v1 : Unit) =>
   some (-1)
 )

noncomputable def gas.loop1 (x0 : Int) (x1 : List Ta) (s1 : Int × List Tb) : Option (Fl (Int × List Tb) (Fl (List Tb) (List Tb))) :=
 bif (ltI s1.1 (lenL x1)) then (
  need (InB s1.1 (lenL x1)) <|
  need (AppB (lenL s1.2) 1 40) <|
  some (.go ((addI .i64 s1.1 1), (appL s1.2 [(Tb.mk x0 (nthI x1 s1.1))])))
 ) else (
   some (.out (.go s1.2))
 )

noncomputable def gas (x0 : Int) (x1 : List Ta) : Option (List Tb) :=
 ((loopF (gas.loop1 x0 x1) (0, [])).bind fun f => flC f fun (v1 : List Tb) =>
   some v1
 )

noncomputable def gav.loop2 (x1 : Int) (v1 : Tc × Bool) (s2 : Int × Bool × List Th) : Option (Fl (Int × Bool × List Th) (Fl (Bool × List Th) (Tc × Int))) :=
 bif (ltI s2.1 (lenL v1.1.fL)) then (
  need (InB s2.1 (lenL v1.1.fL)) <|
  ((
   bif (pickB (notB s2.2.1) (ltI x1 ((nthI v1.1.fL s2.1).fId)) false) then (
    need (AppB (lenL s2.2.2) 1 64) <|
    some (.go (true, (appL s2.2.2 [(Th.mk x1 v1.2 (Tl.mk v1.1.fe v1.1.fk [] true))])))
   ) else (
     some (.go (s2.2.1, s2.2.2))
   )
   : Option (Fl (Bool × List Th) (Fl (Int × Bool × List Th) (Fl (Bool × List Th) (Tc × Int))))).bind fun f => flC f fun (v3 : Bool × List Th) =>
   need (AppB (lenL v3.2) 1 64) <|
   some (.go ((addI .i64 s2.1 1), v3.1, (appL v3.2 [(nthI v1.1.fL s2.1)])))
  )
 ) else (
   some (.out (.go (s2.2.1, s2.2.2)))
 )

noncomputable def gav (x0 : Tc) (x1 : Int) (x2 : Bool) (x3 : Int) : Option (Tc × Int) :=
 ((gH x0 x1)).bind fun r1 =>
 bif (leqI 0 r1) then (
  some (x0, 10)
 ) else (
   ((
    bif x2 then (
     ((gax x0.fS x1 x3)).bind fun r2 =>
     bif (neI r2.2 0) then (
      some (.out (x0, r2.2))
     ) else (
       some (.go ((Tc.mk x0.fe x0.fk x0.fq x0.fb x0.fo x0.fL r2.1 x0.fc x0.ff), true))
     )
    ) else (
      some (.go (x0, false))
    )
    : Option (Fl (Tc × Bool) (Tc × Int))).bind fun f => flC f fun (v1 : Tc × Bool) =>
    ((loopF (gav.loop2 x1 v1) (0, false, [])).bind fun f => flC f fun (v2 : Bool × List Th) =>
      ((
       bif (notB v2.1) then (
        need (AppB (lenL v2.2) 1 64) <|
        some (.go (appL v2.2 [(Th.mk x1 v1.2 (Tl.mk v1.1.fe v1.1.fk [] true))]))
       ) else (
         some (.go v2.2)
       )
       : Option (Fl (List Th) (Tc × Int))).bind fun f => flC f fun (v4 : List Th) =>
       some ((Tc.mk v1.1.fe v1.1.fk v1.1.fq v1.1.fb v1.1.fo v4 v1.1.fS v1.1.fc v1.1.ff), 0)
      )
    )
   )
 )

noncomputable def gaE (x0 : Tc) (x1 : Int) (x2 : Tl) : Option Tc :=
 need (AppB 0 (lenL x0.fL) 64) <|
 need (InB x1 (lenL x0.fL)) <|
 some (Tc.mk x0.fe x0.fk x0.fq x0.fb x0.fo (setI x0.fL x1 (Th.mk ((nthI x0.fL x1).fId) ((nthI x0.fL x1).fu) x2)) x0.fS x0.fc x0.ff)

noncomputable def gaG (x0 : Tc) (x1 : Int) : Option (Tc × List Tb × Int) :=
 ((gH x0 x1)).bind fun r1 =>
 bif (ltI r1 0) then (
  some (x0, [], 12)
 ) else (
   need (InB r1 (lenL x0.fL)) <|
   ((gap x0.fS x1)).bind fun r2 =>
   need (CutB 0 r1 (lenL x0.fL)) <|
   need (AppB 0 (lenL (cutL x0.fL 0 r1)) 64) <|
   need (CutB (addI .i64 r1 1) (lenL x0.fL) (lenL x0.fL)) <|
   need (AppB (lenL (cutL x0.fL 0 r1)) (lenL (cutL x0.fL (addI .i64 r1 1) (lenL x0.fL))) 64) <|
   ((gas x1 ((nthI x0.fL r1).fQ.fL))).bind fun r3 =>
   some ((Tc.mk x0.fe x0.fk x0.fq x0.fb x0.fo (appL (appL [] (cutL x0.fL 0 r1)) (cutL x0.fL (addI .i64 r1 1) (lenL x0.fL))) r2.1 x0.fc x0.ff), r3, 0)
 )

noncomputable def gaJ (x0 : Tc) (x1 : Int) : Option (Tc × List Tb) :=
 ((gH x0 x1)).bind fun r1 =>
 bif (ltI r1 0) then (
  some (x0, [])
 ) else (
   need (InB r1 (lenL x0.fL)) <|
   ((gas x1 ((nthI x0.fL r1).fQ.fL))).bind fun r2 =>
   ((gaE x0 r1 (Tl.mk ((nthI x0.fL r1).fQ.fe) ((nthI x0.fL r1).fQ.fb) [] true))).bind fun r3 =>
   some (r3, r2)
 )

noncomputable def gaP (x0 : Tc) (x1 : Int) (x2 : Ta) : Option (Tc × List Tb × Bool) :=
 ((gH x0 x1)).bind fun r1 =>
 bif (pickB (ltI r1 0) true (ltI x0.fb x2.fj)) then (
  some (x0, [], false)
 ) else (
   need (Under x2.fy false (InB r1 (lenL x0.fL))) <|
   need (InB r1 (lenL x0.fL)) <|
   ((gat ((nthI x0.fL r1).fQ) (Ta.mk x2.fN x2.fj x2.fw (pickB x2.fy true (notB ((nthI x0.fL r1).fu)))))).bind fun r2 =>
   ((gaE x0 r1 r2.1)).bind fun r3 =>
   ((gas x1 r2.2.1)).bind fun r4 =>
   some (r3, r4, r2.2.2)
 )

noncomputable def gE.loop1 (x0 : Tc) (s1 : Int × List Tg × Int) : Option (Fl (Int × List Tg × Int) (Fl (List Tg × Int) (Tc × Int))) :=
 bif (ltI s1.1 (lenL x0.fL)) then (
  need (InB s1.1 (lenL x0.fL)) <|
  bif (eqI (lenL ((nthI x0.fL s1.1).fQ.fL)) 0) then (
   some (.go ((addI .i64 s1.1 1), s1.2.1, s1.2.2))
  ) else (
    bif (nthI x0.fL s1.1).fu then (
     need (InB 0 (lenL ((nthI x0.fL s1.1).fQ.fL))) <|
     need (AppB (lenL s1.2.1) 1 16) <|
     some (.go ((addI .i64 s1.1 1), (appL s1.2.1 [(Tg.mk ((nthI x0.fL s1.1).fId) ((nthI ((nthI x0.fL s1.1).fQ.fL) 0).fj))]), s1.2.2))
    ) else (
      need (Under (ltI s1.2.2 0) false (InB 0 (lenL ((nthI x0.fL s1.1).fQ.fL)))) <|
      need (Under (ltI s1.2.2 0) false (InB s1.2.2 (lenL x0.fL))) <|
      need (Under (ltI s1.2.2 0) false (InB 0 (lenL ((nthI x0.fL s1.2.2).fQ.fL)))) <|
      bif (pickB (ltI s1.2.2 0) true (ltI ((nthI ((nthI x0.fL s1.1).fQ.fL) 0).fw) ((nthI ((nthI x0.fL s1.2.2).fQ.fL) 0).fw))) then (
       some (.go ((addI .i64 s1.1 1), s1.2.1, s1.1))
      ) else (
        some (.go ((addI .i64 s1.1 1), s1.2.1, s1.2.2))
      )
    )
  )
 ) else (
   some (.out (.go (s1.2.1, s1.2.2)))
 )

noncomputable def gE (x0 : Tc) : Option (Tc × Int) :=
 ((loopF (gE.loop1 x0) (0, [], (-1))).bind fun f => flC f fun (v1 : List Tg × Int) =>
   bif (pickB (leqI 0 v1.2) (pickB (ltI x0.ff x0.fo) true (eqI (lenL v1.1) 0)) false) then (
    some (x0, v1.2)
   ) else (
     ((gg x0.fS v1.1)).bind fun r1 =>
     bif (notB r1.2.2) then (
      some ((Tc.mk x0.fe x0.fk x0.fq x0.fb x0.fo x0.fL r1.1 x0.fc x0.ff), (-1))
     ) else (
       ((gH (Tc.mk x0.fe x0.fk x0.fq x0.fb x0.fo x0.fL r1.1 x0.fc x0.ff) r1.2.1)).bind fun r2 =>
       some ((Tc.mk x0.fe x0.fk x0.fq x0.fb x0.fo x0.fL r1.1 x0.fc x0.ff), r2)
     )
   )
 )

noncomputable def gal.loop1  (s1 : Int × List Tb × Tc) : Option (Fl (Int × List Tb × Tc) (Fl (List Tb × Tc) (Tc × List Tb))) :=
 bif (ltI s1.1 100000) then (
  ((
   ((gE s1.2.2)).bind fun r1 =>
   bif (ltI r1.2 0) then (
    some (.out (.out (.out (r1.1, s1.2.1))))
   ) else (
     need (InB r1.2 (lenL r1.1.fL)) <|
     need (InB 0 (lenL ((nthI r1.1.fL r1.2).fQ.fL))) <|
     bif (ltI r1.1.fc ((nthI ((nthI r1.1.fL r1.2).fQ.fL) 0).fj)) then (
      some (.out (.out (.out (r1.1, s1.2.1))))
     ) else (
       need (CutB 1 (lenL ((nthI r1.1.fL r1.2).fQ.fL)) (lenL ((nthI r1.1.fL r1.2).fQ.fL))) <|
       ((gaE r1.1 r1.2 (Tl.mk ((nthI r1.1.fL r1.2).fQ.fe) ((nthI r1.1.fL r1.2).fQ.fb) (cutL ((nthI r1.1.fL r1.2).fQ.fL) 1 (lenL ((nthI r1.1.fL r1.2).fQ.fL))) ((nthI r1.1.fL r1.2).fQ.fv)))).bind fun r2 =>
       ((
        bif (nthI r1.1.fL r1.2).fu then (
         ((gaA r2.fS ((nthI ((nthI r1.1.fL r1.2).fQ.fL) 0).fj))).bind fun r3 =>
         some (.go ((Tc.mk r2.fe r2.fk r2.fq r2.fb r2.fo r2.fL r3 (subI .i64 r2.fc ((nthI ((nthI r1.1.fL r1.2).fQ.fL) 0).fj)) 0), (Th.mk ((nthI r1.1.fL r1.2).fId) true ((nthI r1.1.fL r1.2).fQ))))
        ) else (
          some (.go ((Tc.mk r2.fe r2.fk r2.fq r2.fb r2.fo r2.fL r2.fS (subI .i64 r2.fc ((nthI ((nthI r1.1.fL r1.2).fQ.fL) 0).fj)) (addI .i64 r2.ff 1)), (Th.mk ((nthI r1.1.fL r1.2).fId) false ((nthI r1.1.fL r1.2).fQ))))
        )
        : Option (Fl (Tc × Th) (Fl (List Tb × Tc) (Fl (Int × List Tb × Tc) (Fl (List Tb × Tc) (Tc × List Tb)))))).bind fun f => flC f fun (v3 : Tc × Th) =>
        need (AppB (lenL s1.2.1) 1 40) <|
        some (.go ((appL s1.2.1 [(Tb.mk v3.2.fId (nthI ((nthI r1.1.fL r1.2).fQ.fL) 0))]), v3.1))
       )
     )
   )
   : Option (Fl (List Tb × Tc) (Fl (Int × List Tb × Tc) (Fl (List Tb × Tc) (Tc × List Tb))))).bind fun f => flC f fun (v2 : List Tb × Tc) =>
   some (.go ((addI .i64 s1.1 1), v2.1, v2.2))
  )
 ) else (
   some (.out (.go (s1.2.1, s1.2.2)))
 )

noncomputable def gal (x0 : Tc) : Option (Tc × List Tb) :=
 ((loopF gal.loop1 (0, [], x0)).bind fun f => flC f fun (v1 : List Tb × Tc) =>
   some (v1.2, v1.1)
 )

noncomputable def gau.loop1 (x0 : Tc) (x1 : Int) (s1 : Int × List Tb × Tc) : Option (Fl (Int × List Tb × Tc) (Fl (List Tb × Tc) (Tc × List Tb))) :=
 bif (ltI s1.1 (lenL x0.fL)) then (
  need (InB s1.1 (lenL x0.fL)) <|
  ((gV ((nthI x0.fL s1.1).fQ) x1 s1.2.2.fq)).bind fun r1 =>
  ((gaE s1.2.2 s1.1 r1.1)).bind fun r2 =>
  ((gas ((nthI x0.fL s1.1).fId) r1.2)).bind fun r3 =>
  need (AppB (lenL s1.2.1) (lenL r3) 40) <|
  some (.go ((addI .i64 s1.1 1), (appL s1.2.1 r3), r2))
 ) else (
   some (.out (.go (s1.2.1, s1.2.2)))
 )

noncomputable def gau (x0 : Tc) (x1 : Int) : Option (Tc × List Tb) :=
 ((loopF (gau.loop1 x0 x1) (0, [], x0)).bind fun f => flC f fun (v1 : List Tb × Tc) =>
   some (v1.2, v1.1)
 )
end Go.Proofs
end
section
namespace Go.Proofs
open Go.Ab

theorem flv_congr {ids : List Int} {sh lf lf' : Int → Int} (h : ∀ i ∈ ids, lf i = lf' i) : flv ids sh lf = flv ids sh lf' := by
 unfold flv
 exact List.map_congr_left fun i hi => by rw [h i hi]
theorem flv_lenL (ids : List Int) (sh lf : Int → Int) : lenL (flv ids sh lf) = (ids.length : Int) := by unfold lenL; rw [flv_len]
def lfZ (l : List Hd) (lf : Int → Int) : Int → Int := fun x => if x ∈ l.map (·.fId) then lf x else 0

section
variable {x : RS} {mo : Int} {sh lf : Int → Int} {at' : Int} {gr : Bool} {ids : List Int} {l : List Hd}

theorem rzero_ok (hx : x.fL = flv ids sh lf) (hm : x.fb = mo) (hr : ids.Pairwise (· < ·)) (hi : ids.length ≤ 1000) (hsub : (l.map (·.fId)).Sublist ids) (hv : ∀ h ∈ l, 0 ≤ h.fj ∧ h.fj ≤ mo) :
  loopF (gg.loop1 x l) (0, x.fL) = some (.go (flv ids sh (lfZ l lf))) := by
 have hnd : ids.Nodup := hr.imp fun h => by omega
 have hn : (l.map (·.fId)).Nodup := hnd.sublist hsub
 have hl : l.length ≤ 1000 := by have := hsub.length_le; simp only [List.length_map] at this; omega
 have hsz := rsize_ok (s := x) hn (by omega) (by rw [hm]; exact hv)
 have hnn := szOf_nn hn (fun h hh => (hv h hh).1)
 have key : ∀ n k : Nat, k + n = ids.length → loopF (gg.loop1 x l) ((k : Int), flv ids sh (fun y => if y ∈ ids.take k then lfZ l lf y else lf y)) = some (.go (flv ids sh (lfZ l lf))) := by
  intro n
  induction n with
  | zero =>
    intro k hk
    have : k = ids.length := by omega
    subst this
    refine Lq ?_
    unfold gg.loop1
    simp only
    rw [hx, flv_lenL, ltI_f (by omega), List.take_length, cond_false]
    rw [flv_congr (lf' := lfZ l lf) fun i hi => by rw [if_pos hi]]
  | succ n ih =>
    intro k hk
    have hkl : k < ids.length := by omega
    have hnot : ids[k] ∉ ids.take k := fun q => by
     obtain ⟨j, hj, e⟩ := List.mem_iff_getElem.1 q
     have hj' : j < k := by simp only [List.length_take] at hj; omega
     rw [List.getElem_take] at e
     have := List.pairwise_iff_getElem.1 hr j k (by omega) hkl hj'
     omega
    have h1 : gg.loop1 x l ((k : Int), flv ids sh (fun y => if y ∈ ids.take k then lfZ l lf y else lf y)) = some (.go (((k + 1 : Nat) : Int), flv ids sh (fun y => if y ∈ ids.take (k + 1) then lfZ l lf y else lf y))) := by
     unfold gg.loop1
     simp only
     have hI : InB (k : Int) (lenL x.fL) := by rw [hx]; exact flv_inb hkl
     rw [ltI_t hI.2, cond_true, Lf hI, Lf (flv_inb hkl), flv_nth hkl, hsz, Ld, Lf hI, Lf (flv_inb hkl), succ_n _ (by omega)]
     simp only
     rw [flv_set hkl hnd]
     have hstep : ∀ y ∈ ids, (if y ∈ ids.take (k + 1) then lfZ l lf y else lf y) = if y = ids[k] then lfZ l lf y else (if y ∈ ids.take k then lfZ l lf y else lf y) := fun y hy => by
      rw [List.take_succ_eq_append_getElem hkl]
      simp only [List.mem_append, List.mem_singleton]
      by_cases hy1 : y = ids[k]
      ·rw [if_pos (.inr hy1), if_pos hy1]
      ·rw [if_neg hy1]
       by_cases hy2 : y ∈ ids.take k
       ·rw [if_pos (.inl hy2), if_pos hy2]
       ·rw [if_neg (by rintro (q | q); exact hy2 q; exact hy1 q), if_neg hy2]
     rw [flv_congr hstep]
     by_cases hz : szOf l ids[k] < 0
     ·rw [ltI_t hz, cond_true]
      have hm' : ids[k] ∉ l.map (·.fId) := fun q => by have := (hnn ids[k]).2 q; omega
      rw [flv_congr (lf := setF _ _ _) (lf' := fun y => if y = ids[k] then lfZ l lf y else (if y ∈ ids.take k then lfZ l lf y else lf y)) fun y hy => by
       simp only [setF]
       by_cases hy1 : y = ids[k]
       ·rw [if_pos hy1, if_pos hy1, hy1]; simp only [lfZ, if_neg hm']
       ·rw [if_neg hy1, if_neg hy1]]
     ·rw [ltI_f hz, cond_false]
      have hm' : ids[k] ∈ l.map (·.fId) := (hnn ids[k]).1 (by omega)
      rw [flv_congr (lf := fun y => if y ∈ ids.take k then lfZ l lf y else lf y) (lf' := fun y => if y = ids[k] then lfZ l lf y else (if y ∈ ids.take k then lfZ l lf y else lf y)) fun y hy => by
       by_cases hy1 : y = ids[k]
       ·rw [if_pos hy1, hy1, if_neg hnot]; simp only [lfZ, if_pos hm']
       ·rw [if_neg hy1]]
    rw [loop_go h1]
    exact ih (k + 1) (by omega)
 have := key ids.length 0 (by omega)
 simp only [List.take_zero, List.not_mem_nil, if_false] at this
 rw [hx]
 exact this

theorem rround_ok (hx : x.fL = flv ids sh lf) (hm : x.fb = mo) (hr : ids.Pairwise (· < ·)) (hi : ids.length ≤ 1000) (hsub : (l.map (·.fId)).Sublist ids) (hv : ∀ h ∈ l, 0 ≤ h.fj ∧ h.fj ≤ mo) (hne : l ≠ [])
  (n k : Nat) (hn1 : n < 1000) (hk : k < ids.length) (a0 : Int) (g : Bool) (f : Int → Int) (hf : 0 ≤ f ids[k] ∧ f ids[k] ≤ 1000000000) (hs : 0 ≤ sh ids[k] ∧ sh ids[k] ≤ 1000000000) :
  ∃ k', ∃ h : k' < ids.length, ids[k'] = nxI (l.map (·.fId)) ids[k] ∧ gg.loop3 x l ((n : Int), (k : Int), a0, g, flv ids sh f) =
    if szOf l ids[k] ≤ (if g = true then f else setF f ids[k] (f ids[k] + sh ids[k])) ids[k]
    then some (.out (.out (⟨mo, flv ids sh (if g = true then f else setF f ids[k] (f ids[k] + sh ids[k])), ids[k], true⟩, ids[k], true)))
    else some (.go (((n + 1 : Nat) : Int), (k' : Int), ids[k], false, flv ids sh (if g = true then f else setF f ids[k] (f ids[k] + sh ids[k])))) := by
 have hnd : ids.Nodup := hr.imp fun h => by omega
 have hn : (l.map (·.fId)).Nodup := hnd.sublist hsub
 have hl : l.length ≤ 1000 := by have := hsub.length_le; simp only [List.length_map] at this; omega
 have hI : InB (k : Int) (lenL x.fL) := by rw [hx]; exact flv_inb hk
 have hJ : ∀ f' : Int → Int, InB (k : Int) (lenL (flv ids sh f')) := fun f' => flv_inb hk
 have hL : ∀ f' : Int → Int, lenL (flv ids sh f') = lenL x.fL := fun f' => by rw [hx, flv_lenL, flv_lenL]
 have hfin : ∀ f' : Int → Int, ∃ k', ∃ h : k' < ids.length, ids[k'] = nxI (l.map (·.fId)) ids[k] ∧ ∀ b : Bool, gt ⟨x.fb, flv ids sh f', ids[k], b⟩ l ids[k] = some (k' : Int) := fun f' => by
  obtain ⟨k', hk', e1, e2⟩ := rafter_ok (s := ⟨x.fb, flv ids sh f', ids[k], true⟩) rfl hr (by omega) hsub (by omega) (by rw [hm]; exact hv) hne ids[k]
  refine ⟨k', hk', e1, fun b => ?_⟩
  obtain ⟨k2, hk2, e3, e4⟩ := rafter_ok (s := ⟨x.fb, flv ids sh f', ids[k], b⟩) rfl hr (by omega) hsub (by omega) (by rw [hm]; exact hv) hne ids[k]
  have : k2 = k' := by
   have h0 : ids[k2] = ids[k'] := by rw [e3, e1]
   rcases Nat.lt_trichotomy k2 k' with h | h | h
   ·exact absurd h0 (List.pairwise_iff_getElem.1 hnd k2 k' _ _ h)
   ·exact h
   ·exact absurd h0.symm (List.pairwise_iff_getElem.1 hnd k' k2 _ _ h)
  rw [e4, this]
 have hsz : ∀ (f' : Int → Int) (b : Bool), gI ⟨x.fb, flv ids sh f', ids[k], b⟩ l ids[k] = some (szOf l ids[k]) := fun f' b => rsize_ok hn (by omega) (by rw [hm]; exact hv) _
 cases g with
 | true =>
   simp only [if_true]
   obtain ⟨k', hk', e1, e2⟩ := hfin f
   refine ⟨k', hk', e1, ?_⟩
   unfold gg.loop3
   simp only
   rw [ltI_t (by omega), cond_true, Lf hI, Lf (hJ f), notB_f', cond_false]
   simp only [Ld, flC_go, flv_nth hk]
   rw [Lf hI, Lf (hJ f), Lf (hL f), hsz]
   simp only [Ld]
   rw [leI_d]
   by_cases hc : szOf l ids[k] ≤ f ids[k]
   ·simp only [decide_eq_true hc, cond_true, if_pos hc, Lf (hL f), Ld, flC_out, hm]
   ·simp only [decide_eq_false hc, cond_false, if_neg hc, Lf (hL f), e2, Ld, flC_go, succ_n n (by omega)]
 | false =>
   simp only [Bool.false_eq_true, if_false]
   obtain ⟨k', hk', e1, e2⟩ := hfin (setF f ids[k] (f ids[k] + sh ids[k]))
   refine ⟨k', hk', e1, ?_⟩
   unfold gg.loop3
   simp only
   rw [ltI_t (by omega), cond_true, Lf hI, Lf (hJ f), notB_t', cond_true]
   simp only [Lf hI, Lf (hJ f), flv_nth hk]
   rw [addI_n (by omega) (by omega), flv_set hk hnd]
   simp only [Ld, flC_go]
   rw [Lf (hJ _), Lf (hL _), hsz]
   simp only [Ld, flv_nth hk]
   rw [leI_d]
   by_cases hc : szOf l ids[k] ≤ setF f ids[k] (f ids[k] + sh ids[k]) ids[k]
   ·simp only [decide_eq_true hc, cond_true, if_pos hc, Lf (hL _), Ld, flC_out, hm]
   ·simp only [decide_eq_false hc, cond_false, if_neg hc, Lf (hL _), e2, Ld, flC_go, succ_n n (by omega)]
end
end Go.Proofs
end

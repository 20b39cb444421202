/- What these functions compute, as plain functions. No condition. -/
import Derived.Test.YtnoeflijefijcaaTs
import Derived.Test.YtnoeflijefijcaaM02
import Derived.Test.YtnoeflijefijcaaM01
import Derived.Test.YtnoeflijefijcaaYt
section
namespace Go.Proofs
open Go.Ab
noncomputable def gK (x0 : Tl) : Option Int :=
 bif (pickB (pickB (pickB (pickB (pickB (ltI x0.fh 1) true (ltI 1024 x0.fh)) true (ltI x0.fo 1)) true (ltI 16777216 x0.fo)) true (ltI x0.fu 1)) true (ltI 1099511627776 x0.fu)) then (
  some 5
 ) else (
  bif (pickB (pickB (pickB (ltI x0.fb 1) true (ltI 16777216 x0.fb)) true (ltI x0.fp 1)) true (ltI 1024 x0.fp)) then (
   some 5
  ) else (
   some 0
  )
 )

noncomputable def gar (x0 : Tl) : Option (Option Tg × Int) :=
 ((gK x0)).bind fun r1 =>
 bif (neI r1 0) then (
  some (none, r1)
 ) else (
  ((gaC x0.fb)).bind fun r2 =>
  optC r2.1 (
   bif (neI r2.2 0) then (
    some (none, r2.2)
   ) else (
    none
   )
  ) fun o1 => (
   bif (neI r2.2 0) then (
    some (none, r2.2)
   ) else (
    some ((some (Tg.mk x0 [] o1 0 0)), 0)
   )
  )
 )

noncomputable def gaa.loop1 (x0 : Int) (x1 : List Ta) (s1 : Int × List Tc) : Option (Fl (Int × List Tc) (Fl (List Tc) (List Tc))) :=
 bif (ltI s1.1 (lenL x1)) then (
  need (InB s1.1 (lenL x1)) <|
  need (AppB (lenL s1.2) 1 40) <|
  some (.go ((addI .i64 s1.1 1), (appL s1.2 [(Tc.mk x0 (nthI x1 s1.1))])))
 ) else (
  some (.out (.go s1.2))
 )

noncomputable def gaa (x0 : Int) (x1 : List Ta) : Option (List Tc) :=
 ((loopF (gaa.loop1 x0 x1) (0, [])).bind fun f => flC f fun (v1 : List Tc) =>
  some v1
 )

noncomputable def gN (x0 : Tg) (x1 : Int) (x2 : Bool) (x3 : Int) : Option (Int × Tg) :=
 optC (findM eqI x1 x0.fg) (
  ((
   bif x2 then (
    ((gam x0.fa x1 x3)).bind fun r1 =>
    bif (neI r1.1 0) then (
     some (.out (r1.1, (Tg.mk x0.fe x0.fg r1.2 x0.fc x0.fd)))
    ) else (
     some (.go (r1.2.fb, r1.2.fAt, r1.2.ff, r1.2.fj, r1.2.fk, true))
    )
   ) else (
    some (.go (x0.fa.fb, x0.fa.fAt, x0.fa.ff, x0.fa.fj, x0.fa.fk, false))
   )
   : Option (Fl (Int × Int × Bool × (List (Int × Int)) × (List (Int × Int)) × Bool) (Int × Tg))).bind fun f => flC f fun (v1 : Int × Int × Bool × (List (Int × Int)) × (List (Int × Int)) × Bool) =>
   ((gaA x0.fe.fh x0.fe.fo)).bind fun r2 =>
   optC r2.1 (
    bif (neI r2.2 0) then (
     some (r2.2, (Tg.mk x0.fe x0.fg (Tq.mk v1.1 v1.2.2.2.1 v1.2.2.2.2.1 v1.2.1 v1.2.2.1) x0.fc x0.fd))
    ) else (
     none
    )
   ) fun o1 => (
    bif (neI r2.2 0) then (
     some (r2.2, (Tg.mk x0.fe x0.fg (Tq.mk v1.1 v1.2.2.2.1 v1.2.2.2.2.1 v1.2.1 v1.2.2.1) x0.fc x0.fd))
    ) else (
     some (0, (Tg.mk x0.fe (setM eqI x1 (Td.mk o1 v1.2.2.2.2.2) x0.fg) (Tq.mk v1.1 v1.2.2.2.1 v1.2.2.2.2.1 v1.2.1 v1.2.2.1) x0.fc x0.fd))
    )
   )
  )
 ) fun _z1 => (
  some (10, x0)
 )

noncomputable def gH (x0 : Tg) (x1 : Int) : Option (List Tc × Int × Tg) :=
 optC (findM eqI x1 x0.fg) (
  some ([], 12, x0)
 ) fun z1 => (
  ((
   bif z1.fq then (
    ((gG x0.fa x1)).bind fun r1 =>
    some (.go (r1.2.fb, r1.2.fAt, r1.2.ff, r1.2.fj, r1.2.fk, true))
   ) else (
    some (.go (x0.fa.fb, x0.fa.fAt, x0.fa.ff, x0.fa.fj, x0.fa.fk, false))
   )
   : Option (Fl (Int × Int × Bool × (List (Int × Int)) × (List (Int × Int)) × Bool) (List Tc × Int × Tg))).bind fun f => flC f fun (v1 : Int × Int × Bool × (List (Int × Int)) × (List (Int × Int)) × Bool) =>
   ((gZ z1.fA)).bind fun r2 =>
   ((gaa x1 r2.1)).bind fun r3 =>
   some (r3, 0, (Tg.mk x0.fe (delM eqI x1 x0.fg) (Tq.mk v1.1 v1.2.2.2.1 v1.2.2.2.2.1 v1.2.1 v1.2.2.1) x0.fc x0.fd))
  )
 )

noncomputable def gae (x0 : Tg) (x1 : Int) : Option (List Tc × Tg) :=
 optC (findM eqI x1 x0.fg) (
  some ([], x0)
 ) fun z1 => (
  ((gZ z1.fA)).bind fun r1 =>
  ((gaa x1 r1.1)).bind fun r2 =>
  some (r2, (Tg.mk x0.fe (setM eqI x1 (Td.mk r1.2 z1.fq) x0.fg) x0.fa x0.fc x0.fd))
 )

noncomputable def gI (x0 : Tg) (x1 : Int) (x2 : Ta) : Option (List Tc × Bool × Tg) :=
 optC (findM eqI x1 x0.fg) (
  some ([], false, x0)
 ) fun z1 => (
  bif (ltI x0.fe.fb x2.fm) then (
   some ([], false, x0)
  ) else (
   ((gv z1.fA (Ta.mk x2.fN x2.fm x2.fy (pickB x2.fz true (notB z1.fq))))).bind fun r1 =>
   ((gaa x1 r1.1)).bind fun r2 =>
   some (r2, r1.2.1, (Tg.mk x0.fe (setM eqI x1 (Td.mk r1.2.2 z1.fq) x0.fg) x0.fa x0.fc x0.fd))
  )
 )

noncomputable def gV (x0 : Tg) (x1 : Int) : Option Bool :=
 optC (findM eqI x1 x0.fg) (
  some false
 ) fun z1 => (
  need ((gY z1.fA).isSome = true) <|
  some ((gY z1.fA).getD dflt)
 )

noncomputable def gL (x0 : Tg) (x1 : Int) : Option (Int × Int) :=
 optC (findM eqI x1 x0.fg) (
  some (0, 0)
 ) fun z1 => (
  ((gab z1.fA)).bind fun r1 =>
  ((gao z1.fA)).bind fun r2 =>
  some (r1, r2)
 )

noncomputable def gT (x0 : Tg) (x1 : Int) : Option Tg :=
 some (Tg.mk x0.fe x0.fg x0.fa (minI (addI .i64 x0.fc (minI (maxI x1 0) 1099511627776)) 1099511627776) x0.fd)

noncomputable def gp (x0 : Tg) : Option Int :=
 some x0.fc

noncomputable def gu (x0 : Tg) (x1 : Int) : Option (Bool × Tg) :=
 bif (pickB (ltI x1 0) true (ltI x0.fc x1)) then (
  some (false, x0)
 ) else (
  some (true, (Tg.mk x0.fe x0.fg x0.fa (subI .i64 x0.fc x1) x0.fd))
 )
end Go.Proofs
end
section
namespace Go.Proofs
open Go.Ab
noncomputable def gi.loop1 (x0 : Tg) (r2 : List Int) (s1 : Int × List Tk) : Option (Fl (Int × List Tk) (Fl (List Tk) (Int × Bool × Tg))) :=
 bif (ltI s1.1 (lenL r2)) then (
  need (InB s1.1 (lenL r2)) <|
  optC (findM eqI (nthI r2 s1.1) x0.fg) (
   none
  ) fun z3 => (
   ((gF z3.fA)).bind fun r4 =>
   need (AppB (lenL s1.2) 1 16) <|
   some (.go ((addI .i64 s1.1 1), (appL s1.2 [(Tk.mk (nthI r2 s1.1) r4.1.fm)])))
  )
 ) else (
  some (.out (.go s1.2))
 )

noncomputable def gi (x0 : Tg) : Option (Int × Bool × Tg) :=
 ((gC x0 false)).bind fun r1 =>
 ((gC x0 true)).bind fun r2 =>
 bif (pickB (ltI 0 (lenL r1)) (pickB (ltI x0.fd x0.fe.fp) true (eqI (lenL r2) 0)) false) then (
  ((gak x0 r1)).bind fun r3 =>
  some (r3, true, x0)
 ) else (
  ((loopF (gi.loop1 x0 r2) (0, [])).bind fun f => flC f fun (v1 : List Tk) =>
   ((gg x0.fa v1)).bind fun r5 =>
   some (r5.1, r5.2.1, (Tg.mk x0.fe x0.fg r5.2.2 x0.fc x0.fd))
  )
 )

noncomputable def gt.loop1  (s1 : List Tc × Tl × Int × Int × (List (Int × Td)) × Int × Int × Bool × (List (Int × Int)) × (List (Int × Int))) : Option (Fl (List Tc × Tl × Int × Int × (List (Int × Td)) × Int × Int × Bool × (List (Int × Int)) × (List (Int × Int))) (Fl Unit (List Tc × Tg))) :=
 ((gi (Tg.mk s1.2.1 s1.2.2.2.2.1 (Tq.mk s1.2.2.2.2.2.1 s1.2.2.2.2.2.2.2.2.1 s1.2.2.2.2.2.2.2.2.2 s1.2.2.2.2.2.2.1 s1.2.2.2.2.2.2.2.1) s1.2.2.1 s1.2.2.2.1))).bind fun r1 =>
 bif (notB r1.2.1) then (
  some (.out (.out (s1.1, r1.2.2)))
 ) else (
  optC (findM eqI r1.1 r1.2.2.fg) (
   none
  ) fun z3 => (
   ((gF z3.fA)).bind fun r2 =>
   bif (ltI r1.2.2.fc r2.1.fm) then (
    some (.out (.out (s1.1, r1.2.2)))
   ) else (
    ((gap z3.fA)).bind fun r3 =>
    ((
     bif z3.fq then (
      ((gaj r1.2.2.fa r2.1.fm)).bind fun r4 =>
      some (.go (r4.fb, r4.fAt, r4.ff, r4.fj, r4.fk, 0, true))
     ) else (
      some (.go (r1.2.2.fa.fb, r1.2.2.fa.fAt, r1.2.2.fa.ff, r1.2.2.fa.fj, r1.2.2.fa.fk, (addI .i64 r1.2.2.fd 1), false))
     )
     : Option (Fl (Int × Int × Bool × (List (Int × Int)) × (List (Int × Int)) × Int × Bool) (Fl (List Tc × Tl × Int × Int × (List (Int × Td)) × Int × Int × Bool × (List (Int × Int)) × (List (Int × Int))) (Fl Unit (List Tc × Tg))))).bind fun f => flC f fun (v2 : Int × Int × Bool × (List (Int × Int)) × (List (Int × Int)) × Int × Bool) =>
     need (AppB (lenL s1.1) 1 40) <|
     some (.go ((appL s1.1 [(Tc.mk r1.1 r2.1)]), r1.2.2.fe, (subI .i64 r1.2.2.fc r2.1.fm), v2.2.2.2.2.2.1, (setM eqI r1.1 (Td.mk r3.2.2 z3.fq) r1.2.2.fg), v2.1, v2.2.1, v2.2.2.1, v2.2.2.2.1, v2.2.2.2.2.1))
    )
   )
  )
 )

noncomputable def gt (x0 : Tg) : Option (List Tc × Tg) :=
 ((loopF gt.loop1 ([], x0.fe, x0.fc, x0.fd, x0.fg, x0.fa.fb, x0.fa.fAt, x0.fa.ff, x0.fa.fj, x0.fa.fk)).bind fun f => flC f fun (_v1 : Unit) =>
  none
 )

noncomputable def gq.loop1 (x0 : Tg) (x1 : Int) (s1 : Int × List Tc × (List (Int × Td))) : Option (Fl (Int × List Tc × (List (Int × Td))) (Fl (List Tc × (List (Int × Td))) (List Tc × Tg))) :=
 bif (ltI s1.1 (lenL (sortL (keysM x0.fg)))) then (
  need (InB s1.1 (lenL (sortL (keysM x0.fg)))) <|
  optC (findM eqI (nthI (sortL (keysM x0.fg)) s1.1) s1.2.2) (
   none
  ) fun z3 => (
   ((gk z3.fA x1 x0.fe.fu)).bind fun r1 =>
   ((gaa (nthI (sortL (keysM x0.fg)) s1.1) r1.1)).bind fun r2 =>
   need (AppB (lenL s1.2.1) (lenL r2) 40) <|
   some (.go ((addI .i64 s1.1 1), (appL s1.2.1 r2), (setM eqI (nthI (sortL (keysM x0.fg)) s1.1) (Td.mk r1.2 z3.fq) s1.2.2)))
  )
 ) else (
  some (.out (.go (s1.2.1, s1.2.2)))
 )

noncomputable def gq (x0 : Tg) (x1 : Int) : Option (List Tc × Tg) :=
 need (KeysB (keysM x0.fg)) <|
 ((loopF (gq.loop1 x0 x1) (0, [], x0.fg)).bind fun f => flC f fun (v1 : List Tc × (List (Int × Td))) =>
  some (v1.1, (Tg.mk x0.fe v1.2 x0.fa x0.fc x0.fd))
 )
end Go.Proofs
end
section
namespace Go.Proofs
open Go.Ab

theorem flv_congr {ids : List Int} {sh lf lf' : Int → Int} (h : ∀ i ∈ ids, lf i = lf' i) : flv ids sh lf = flv ids sh lf' := by
  unfold flv
  exact List.map_congr_left fun i hi => by rw [h i hi]
theorem flv_lenL (ids : List Int) (sh lf : Int → Int) : lenL (flv ids sh lf) = (ids.length : Int) := by unfold lenL; rw [flv_len]
def lfZ (l : List Hd) (lf : Int → Int) : Int → Int := fun x => if x ∈ l.map (·.fId) then lf x else 0

section
variable {x : RS} {mo : Int} {sh lf : Int → Int} {at' : Int} {gr : Bool} {ids : List Int} {l : List Hd}

theorem rzero_ok (hx : x.fL = flv ids sh lf) (hm : x.fb = mo) (hr : ids.Pairwise (· < ·)) (hi : ids.length ≤ 1000) (hsub : (l.map (·.fId)).Sublist ids) (hv : ∀ h ∈ l, 0 ≤ h.fm ∧ h.fm ≤ mo) :
    loopF (gh.loop1 x l) (0, x.fL) = some (.go (flv ids sh (lfZ l lf))) := by
  have hnd : ids.Nodup := hr.imp fun h => by omega
  have hn : (l.map (·.fId)).Nodup := hnd.sublist hsub
  have hl : l.length ≤ 1000 := by have := hsub.length_le; simp only [List.length_map] at this; omega
  have hsz := rsize_ok (s := x) hn (by omega) (by rw [hm]; exact hv)
  have hnn := szOf_nn hn (fun h hh => (hv h hh).1)
  have key : ∀ n k : Nat, k + n = ids.length → loopF (gh.loop1 x l) ((k : Int), flv ids sh (fun y => if y ∈ ids.take k then lfZ l lf y else lf y)) = some (.go (flv ids sh (lfZ l lf))) := by
    intro n
    induction n with
    | zero =>
      intro k hk
      have : k = ids.length := by omega
      subst this
      refine Lq ?_
      unfold gh.loop1
      simp only
      rw [hx, flv_lenL, ltI_f (by omega), List.take_length, cond_false]
      rw [flv_congr (lf' := lfZ l lf) fun i hi => by rw [if_pos hi]]
    | succ n ih =>
      intro k hk
      have hkl : k < ids.length := by omega
      have hnot : ids[k] ∉ ids.take k := fun q => by
        obtain ⟨j, hj, e⟩ := List.mem_iff_getElem.1 q
        have hj' : j < k := by simp only [List.length_take] at hj; omega
        rw [List.getElem_take] at e
        have := List.pairwise_iff_getElem.1 hr j k (by omega) hkl hj'
        omega
      have h1 : gh.loop1 x l ((k : Int), flv ids sh (fun y => if y ∈ ids.take k then lfZ l lf y else lf y)) = some (.go (((k + 1 : Nat) : Int), flv ids sh (fun y => if y ∈ ids.take (k + 1) then lfZ l lf y else lf y))) := by
        unfold gh.loop1
        simp only
        have hI : InB (k : Int) (lenL x.fL) := by rw [hx]; exact flv_inb hkl
        rw [ltI_t hI.2, cond_true, Le hI, Le (flv_inb hkl), flv_nth hkl, hsz, Ld, Le hI, Le (flv_inb hkl), Lv _ (by omega)]
        simp only
        rw [flv_set hkl hnd]
        have hstep : ∀ y ∈ ids, (if y ∈ ids.take (k + 1) then lfZ l lf y else lf y) = if y = ids[k] then lfZ l lf y else (if y ∈ ids.take k then lfZ l lf y else lf y) := fun y hy => by
          rw [List.take_succ_eq_append_getElem hkl]
          simp only [List.mem_append, List.mem_singleton]
          by_cases hy1 : y = ids[k]
          · rw [if_pos (.inr hy1), if_pos hy1]
          · rw [if_neg hy1]
            by_cases hy2 : y ∈ ids.take k
            · rw [if_pos (.inl hy2), if_pos hy2]
            · rw [if_neg (by rintro (q | q); exact hy2 q; exact hy1 q), if_neg hy2]
        rw [flv_congr hstep]
        by_cases hz : szOf l ids[k] < 0
        · rw [ltI_t hz, cond_true]
          have hm' : ids[k] ∉ l.map (·.fId) := fun q => by have := (hnn ids[k]).2 q; omega
          rw [flv_congr (lf := setF _ _ _) (lf' := fun y => if y = ids[k] then lfZ l lf y else (if y ∈ ids.take k then lfZ l lf y else lf y)) fun y hy => by
            simp only [setF]
            by_cases hy1 : y = ids[k]
            · rw [if_pos hy1, if_pos hy1, hy1]; simp only [lfZ, if_neg hm']
            · rw [if_neg hy1, if_neg hy1]]
        · rw [ltI_f hz, cond_false]
          have hm' : ids[k] ∈ l.map (·.fId) := (hnn ids[k]).1 (by omega)
          rw [flv_congr (lf := fun y => if y ∈ ids.take k then lfZ l lf y else lf y) (lf' := fun y => if y = ids[k] then lfZ l lf y else (if y ∈ ids.take k then lfZ l lf y else lf y)) fun y hy => by
            by_cases hy1 : y = ids[k]
            · rw [if_pos hy1, hy1, if_neg hnot]; simp only [lfZ, if_pos hm']
            · rw [if_neg hy1]]
      rw [Lw h1]
      exact ih (k + 1) (by omega)
  have := key ids.length 0 (by omega)
  simp only [List.take_zero, List.not_mem_nil, if_false] at this
  rw [hx]
  exact this

theorem rround_ok (hx : x.fL = flv ids sh lf) (hm : x.fb = mo) (hr : ids.Pairwise (· < ·)) (hi : ids.length ≤ 1000) (hsub : (l.map (·.fId)).Sublist ids) (hv : ∀ h ∈ l, 0 ≤ h.fm ∧ h.fm ≤ mo) (hne : l ≠ [])
    (n k : Nat) (hn1 : n < 1000) (hk : k < ids.length) (a0 : Int) (g : Bool) (f : Int → Int) (hf : 0 ≤ f ids[k] ∧ f ids[k] ≤ 1000000000) (hs : 0 ≤ sh ids[k] ∧ sh ids[k] ≤ 1000000000) :
    ∃ k', ∃ h : k' < ids.length, ids[k'] = nxI (l.map (·.fId)) ids[k] ∧ gh.loop3 x l ((n : Int), (k : Int), a0, g, flv ids sh f) =
      if szOf l ids[k] ≤ (if g = true then f else setF f ids[k] (f ids[k] + sh ids[k])) ids[k]
      then some (.out (.out (⟨mo, flv ids sh (if g = true then f else setF f ids[k] (f ids[k] + sh ids[k])), ids[k], true⟩, ids[k], true)))
      else some (.go (((n + 1 : Nat) : Int), (k' : Int), ids[k], false, flv ids sh (if g = true then f else setF f ids[k] (f ids[k] + sh ids[k])))) := by
  have hnd : ids.Nodup := hr.imp fun h => by omega
  have hn : (l.map (·.fId)).Nodup := hnd.sublist hsub
  have hl : l.length ≤ 1000 := by have := hsub.length_le; simp only [List.length_map] at this; omega
  have hI : InB (k : Int) (lenL x.fL) := by rw [hx]; exact flv_inb hk
  have hJ : ∀ f' : Int → Int, InB (k : Int) (lenL (flv ids sh f')) := fun f' => flv_inb hk
  have hL : ∀ f' : Int → Int, lenL (flv ids sh f') = lenL x.fL := fun f' => by rw [hx, flv_lenL, flv_lenL]
  have hfin : ∀ f' : Int → Int, ∃ k', ∃ h : k' < ids.length, ids[k'] = nxI (l.map (·.fId)) ids[k] ∧ ∀ b : Bool, gj ⟨x.fb, flv ids sh f', ids[k], b⟩ l ids[k] = some (k' : Int) := fun f' => by
    obtain ⟨k', hk', e1, e2⟩ := rafter_ok (s := ⟨x.fb, flv ids sh f', ids[k], true⟩) rfl hr (by omega) hsub (by omega) (by rw [hm]; exact hv) hne ids[k]
    refine ⟨k', hk', e1, fun b => ?_⟩
    obtain ⟨k2, hk2, e3, e4⟩ := rafter_ok (s := ⟨x.fb, flv ids sh f', ids[k], b⟩) rfl hr (by omega) hsub (by omega) (by rw [hm]; exact hv) hne ids[k]
    have : k2 = k' := by
      have h0 : ids[k2] = ids[k'] := by rw [e3, e1]
      rcases Nat.lt_trichotomy k2 k' with h | h | h
      · exact absurd h0 (List.pairwise_iff_getElem.1 hnd k2 k' _ _ h)
      · exact h
      · exact absurd h0.symm (List.pairwise_iff_getElem.1 hnd k' k2 _ _ h)
    rw [e4, this]
  have hsz : ∀ (f' : Int → Int) (b : Bool), gz ⟨x.fb, flv ids sh f', ids[k], b⟩ l ids[k] = some (szOf l ids[k]) := fun f' b => rsize_ok hn (by omega) (by rw [hm]; exact hv) _
  cases g with
  | true =>
    simp only [if_true]
    obtain ⟨k', hk', e1, e2⟩ := hfin f
    refine ⟨k', hk', e1, ?_⟩
    unfold gh.loop3
    simp only
    rw [ltI_t (by omega), cond_true, Le hI, Le (hJ f), notB_f', cond_false]
    simp only [Ld, flC_go, flv_nth hk]
    rw [Le hI, Le (hJ f), Le (hL f), hsz]
    simp only [Ld]
    rw [leI_d]
    by_cases hc : szOf l ids[k] ≤ f ids[k]
    · simp only [decide_eq_true hc, cond_true, if_pos hc, Le (hL f), Ld, flC_out, hm]
    · simp only [decide_eq_false hc, cond_false, if_neg hc, Le (hL f), e2, Ld, flC_go, Lv n (by omega)]
  | false =>
    simp only [Bool.false_eq_true, if_false]
    obtain ⟨k', hk', e1, e2⟩ := hfin (setF f ids[k] (f ids[k] + sh ids[k]))
    refine ⟨k', hk', e1, ?_⟩
    unfold gh.loop3
    simp only
    rw [ltI_t (by omega), cond_true, Le hI, Le (hJ f), notB_t', cond_true]
    simp only [Le hI, Le (hJ f), flv_nth hk]
    rw [addI_n (by omega) (by omega), flv_set hk hnd]
    simp only [Ld, flC_go]
    rw [Le (hJ _), Le (hL _), hsz]
    simp only [Ld, flv_nth hk]
    rw [leI_d]
    by_cases hc : szOf l ids[k] ≤ setF f ids[k] (f ids[k] + sh ids[k]) ids[k]
    · simp only [decide_eq_true hc, cond_true, if_pos hc, Le (hL _), Ld, flC_out, hm]
    · simp only [decide_eq_false hc, cond_false, if_neg hc, Le (hL _), e2, Ld, flC_go, Lv n (by omega)]
end
end Go.Proofs
end

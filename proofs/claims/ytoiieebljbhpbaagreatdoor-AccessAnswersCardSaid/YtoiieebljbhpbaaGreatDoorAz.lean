/- The other laws of access. No condition. -/
import Derived.Test.YtoiieebljbhpbaaGreatDoorAy
import Derived.Test.YtoiieebljbhpbaaGreatDoorM11
namespace Go.Proofs
open Go.Ab Go.Lib

/-! ### An error changes nothing -/
theorem do_err {x : St4} {c : Cm} {v : Int} (h : (doM x c v).2.2 ≠ 0) : (doM x c v).1 = x := by
 unfold doM at *
 split
 ·rfl
 ·rename_i h0
  rw [if_neg h0] at h
  split
  ·rename_i h1
   rw [if_pos h1] at h
   simp only at h ⊢
   unfold joinL at *
   split
   ·rename_i h2
    rw [if_pos h2] at h
    split
    ·rfl
    ·rename_i h3
     rw [if_neg h3] at h
     split
     ·rfl
     ·rename_i h4; rw [if_neg h4] at h; exact absurd rfl h
   ·rfl
  ·rename_i h1
   rw [if_neg h1] at h
   split
   ·rfl
   ·rename_i h2
    rw [if_neg h2] at h
    split
    ·rename_i h3; rw [if_pos h3] at h; exact absurd rfl h
    ·rename_i h3
     rw [if_neg h3] at h
     split
     ·rename_i h4
      rw [if_pos h4] at h
      simp only at h ⊢
      unfold pubR at *
      split
      ·rfl
      ·rename_i h5
       rw [if_neg h5] at h
       split
       ·rfl
       ·rename_i h6; rw [if_neg h6] at h; exact absurd rfl h
     ·rename_i h4
      rw [if_neg h4] at h
      split
      ·rename_i h5
       rw [if_pos h5] at h
       simp only at h ⊢
       unfold subR at *
       split
       ·rfl
       ·rename_i h6
        rw [if_neg h6] at h
        split
        ·rfl
        ·rename_i h7
         rw [if_neg h7] at h
         split
         ·rfl
         ·rename_i h8
          rw [if_neg h8] at h
          split
          ·rename_i h9; rw [if_pos h9] at h; exact absurd rfl h
          ·rename_i h9
           rw [if_neg h9] at h
           split
           ·rfl
           ·rename_i h10; rw [if_neg h10] at h; exact absurd rfl h
      ·rename_i h5
       rw [if_neg h5] at h
       split
       ·rename_i h6
        rw [if_pos h6] at h
        simp only at h ⊢
        unfold lnkR at *
        split
        ·rfl
        ·rename_i h7
         rw [if_neg h7] at h
         split
         ·rename_i h8; rw [if_pos h8] at h; exact absurd rfl h
         ·rename_i h8; rw [if_neg h8] at h; exact absurd rfl h
       ·rename_i h6
        rw [if_neg h6] at h
        simp only at h ⊢
        unfold trkR at *
        split
        ·rfl
        ·rename_i h7
         rw [if_neg h7] at h
         split
         ·rename_i h8; rw [if_pos h8] at h; exact absurd rfl h
         ·rename_i h8; rw [if_neg h8] at h; exact absurd rfl h
theorem Rl.track {n : Nat} {x : St4} {a : Th} (h : Rl n x a) (k : Tc) : gu a k = some (trkV (findT x.T k), hasT x.T k) := by
 obtain ⟨m, h1, rfl⟩ := h
 exact track_d h1 k
theorem accessAnswers_plain (x0 : Int) (x1 : List Cm) : gt x0 x1 = some true := by
 obtain ⟨k, hk, _, a0, g1, g2⟩ := hall_d x0
 obtain ⟨t, ht, v, rfl⟩ := walk_rel (body := gt.loop1 x1) (fun i s => ∃ x a, Rl (2 * k + i) x a ∧ s = ((i : Int), a.fb.fe, a.fb.fj, a.fc, a.ff, a.fg))
  (fun t => ∃ v, t = .go v) (min x1.length 60) (by
   rintro i s hi ⟨x, a, hR, rfl⟩
   unfold gt.loop1
   simp only
   have e : pickB (ltI (i : Int) (lenL x1)) (ltI (i : Int) 60) false = true := by
    rw [pickB_and, ltI_t (by unfold lenL; omega), ltI_t (by omega)]; rfl
   have hx : i < x1.length := by omega
   have etaT : ∀ a : Th, Tj.mk a.fb.fe a.fb.fj = a.fb := fun a => by cases a.fb; rfl
   rw [e, cond_true, Lf (inB_at hx), nthI_at hx, Lm (by omega), eta_A, etaT]
   obtain ⟨c, c1, c2, c3, c4⟩ := few_d x1[i]
   obtain ⟨v, hv, _⟩ := check_some c c2 c3 (by omega)
   obtain ⟨a', q1, q2, _⟩ := hR.step (by omega) c2 c3 c4 hv
   rw [c1, Lc, hR.links, Lc, hR.len, Lc, hR.track, Lc, q1, Lc]
   simp only
   by_cases h0 : (doM x c v).2.2 = 0
   ·rw [eqI_t h0, cond_true]
    simp only [Lc, flC_go]
    exact ⟨_, rfl, _, a', q2, rfl⟩
   ·have hs := do_err h0
    rw [hs] at q2
    rw [eqI_f h0, cond_false, q2.track, Lc, q2.links, Lc, q2.len, need_s]
    simp only [getD_so, neB_self, pickB_f]
    rw [neI_f rfl, neI_f rfl, neI_f rfl]
    simp only [pickB_f, cond_false]
    have hsl : x.S.length ≤ 1000 := by
     obtain ⟨m, h1, _⟩ := hR
     have := h1.slen
     have := h1.nn
     omega
    have w : loopF (gt.loop3 (x.S.map lnk) (x.S.map lnk)) 0 = some (.go ()) :=
     walk_out (n := (x.S.map lnk).length) (fun j => (j : Int)) (fun j hj => by
      rw [List.length_map] at hj
      unfold gt.loop3
      rw [ltI_t (by unfold lenL; rw [List.length_map]; omega), cond_true, Lf (inB_at (by simpa using hj)), Lf (inB_at (by simpa using hj)), Lm (by omega), eqI_t rfl, eqI_t rfl, eqI_t rfl]
      rfl) (by
      unfold gt.loop3
      rw [ltI_f (by unfold lenL; omega), cond_false])
    rw [w]
    simp only [Lc, flC_go]
    exact ⟨_, rfl, x, a', q2, rfl⟩) (by
   rintro s ⟨x, a, hR, rfl⟩
   unfold gt.loop1
   simp only
   have e : pickB (ltI ((min x1.length 60 : Nat) : Int) (lenL x1)) (ltI ((min x1.length 60 : Nat) : Int) 60) false = false := by
    rw [pickB_and, Bool.and_eq_false_iff]
    by_cases q : x1.length ≤ 60
    ·exact .inl (ltI_f (by unfold lenL; omega))
    ·exact .inr (ltI_f (by omega))
   rw [e, cond_false]
   exact ⟨_, rfl, _, rfl⟩) (s := (0, a0.fb.fe, a0.fb.fj, a0.fc, a0.ff, a0.fg)) ⟨_, a0, g2, rfl⟩
 unfold gt
 rw [awake13_d, Lc, notB_f', cond_false, g1, Lc, ht]
 rfl

/-! ### Each source is one track's -/
theorem all_nodup {T : List Tk} (h : (allS T).Nodup) : ∀ {t : Tk}, t ∈ T → t.fa.Nodup := by
 induction T with
 | nil => intro t ht; cases ht
 | cons a T ih =>
   have h' : (a.fa ++ allS T).Nodup := h
   rw [List.nodup_append] at h'
   intro t ht
   rcases List.mem_cons.1 ht with rfl | ht
   ·exact h'.1
   ·exact ih h'.2.1 ht
theorem all_uniq {T : List Tk} (h : (allS T).Nodup) : ∀ {t u : Tk} {y : Int}, t ∈ T → u ∈ T → y ∈ t.fa → y ∈ u.fa → t = u := by
 induction T with
 | nil => intro t u y ht; cases ht
 | cons a T ih =>
   have h' : (a.fa ++ allS T).Nodup := h
   rw [List.nodup_append] at h'
   intro t u y ht hu h1 h2
   rcases List.mem_cons.1 ht with e1 | k1 <;> rcases List.mem_cons.1 hu with e2 | k2
   ·rw [e1, e2]
   ·rw [e1] at h1
    exact absurd rfl (h'.2.2 y h1 y (allS_mem.2 ⟨u, k2, h2⟩))
   ·rw [e2] at h2
    exact absurd rfl (h'.2.2 y h2 y (allS_mem.2 ⟨t, k1, h1⟩))
   ·exact ih h'.2.1 k1 k2 h1 h2
def Ahd (p q : Nat) (k : Tc) : Prop := k.fd < (p : Int) ∨ (k.fd = (p : Int) ∧ k.fh < (q : Int))
def SeenOk (T : List Tk) (p q : Nat) (seen : List (Int × Int)) : Prop := ∀ y ∈ keysM seen, ∃ t ∈ T, y ∈ t.fa ∧ Ahd p q (keyT t)
theorem keys_set {k : Int} {v : Int} {m : List (Int × Int)} (h : k ∉ keysM m) : keysM (setM eqI k v m) = keysM m ++ [k] := by
 rw [setK_no eqI_ii h]; simp [keysM]
theorem accessSound_plain (x0 : List Cm) : ge x0 = some true := by
 obtain ⟨t1, ht1, a1, x, rfl, hR⟩ := walk_rel (body := ge.loop1 x0) (fun i s => ∃ x a, Rl i x a ∧ s = ((i : Int), a.fb.fe, a.fb.fj, a.fc, a.ff, a.fg))
  (fun t => ∃ a x, t = .go (a.fb.fe, a.fb.fj, a.fc, a.ff, a.fg) ∧ Rl (min x0.length 80) x a) (min x0.length 80) (by
   rintro i s hi ⟨x, a, hR, rfl⟩
   unfold ge.loop1
   simp only
   have e : pickB (ltI (i : Int) (lenL x0)) (ltI (i : Int) 80) false = true := by
    rw [pickB_and, ltI_t (by unfold lenL; omega), ltI_t (by omega)]; rfl
   have hx : i < x0.length := by omega
   rw [e, cond_true, Lf (inB_at hx), nthI_at hx, Lm (by omega), eta_A]
   obtain ⟨c, c1, c2, c3, c4⟩ := few_d x0[i]
   obtain ⟨v, hv, _⟩ := check_some c c2 c3 (by omega)
   obtain ⟨a', q1, q2, _⟩ := hR.step (by omega) c2 c3 c4 hv
   rw [c1, Lc, q1, Lc]
   exact ⟨_, rfl, _, a', q2, rfl⟩) (by
   rintro s ⟨x, a, hR, rfl⟩
   unfold ge.loop1
   simp only
   have e : pickB (ltI ((min x0.length 80 : Nat) : Int) (lenL x0)) (ltI ((min x0.length 80 : Nat) : Int) 80) false = false := by
    rw [pickB_and, Bool.and_eq_false_iff]
    by_cases q : x0.length ≤ 80
    ·exact .inl (ltI_f (by unfold lenL; omega))
    ·exact .inr (ltI_f (by omega))
   rw [e, cond_false]
   exact ⟨_, rfl, a, x, rfl, hR⟩) (s := (0, (stA [] 0 [] []).fb.fe, (stA [] 0 [] []).fb.fj, (stA [] 0 [] []).fc, (stA [] 0 [] []).ff, (stA [] 0 [] []).fg)) ⟨_, _, Rl.new, rfl⟩
 obtain ⟨m, h, rfl⟩ := hR
 have hsl := h.slen
 have hnn := h.nn
 have w2 : loopF (ge.loop2 (x.S.map lnk) ((stA x.L x.nx x.T m).fb.fe, (stA x.L x.nx x.T m).fb.fj, (stA x.L x.nx x.T m).fc, (stA x.L x.nx x.T m).ff, (stA x.L x.nx x.T m).fg)) 0 = some (.go ()) :=
  walk_out (n := x.S.length) (fun i => (i : Int)) (fun i hi => by
   have hat : nthI (x.S.map lnk) (i : Int) = lnk x.S[i] := by rw [nthI_at (by simpa using hi), List.getElem_map]
   obtain ⟨g1, g2⟩ := h.sub _ (List.getElem_mem hi)
   unfold ge.loop2
   simp only
   rw [ltI_t (by unfold lenL; rw [List.length_map]; omega), cond_true, Lf (inB_at (by simpa using hi)), hat, track_d h, Lc]
   have e1 : hasT x.T (lnk x.S[i]).fOf = true := g1
   have e2 : togL x.L (lnk x.S[i]).fu (lnk x.S[i]).fOf.fd = true := g2
   simp only [e1, together_d h.tbl, e2, getD_so, notB_f', pickB_f, need_s]
   by_cases h0 : i = 0
   ·subst h0
    rw [ltI_f (by omega), Lf (show Under false true _ from fun q => by cases q), Lm (by omega)]
    rfl
   ·have e3 : subI .i64 (i : Int) 1 = ((i - 1 : Nat) : Int) := by rw [subI_n (by omega) (by omega)]; omega
    have hat' : nthI (x.S.map lnk) ((i - 1 : Nat) : Int) = lnk x.S[i - 1] := by rw [nthI_at (by simp only [List.length_map]; omega), List.getElem_map]
    have hlt := List.pairwise_iff_getElem.1 h.up (i - 1) i (by omega) hi (by omega)
    have hne := ltSb_ne hlt
    rw [ltI_t (by omega), e3, Lf (show Under true true (Under false false (InB ((i - 1 : Nat) : Int) (lenL (x.S.map lnk)))) from fun _ _ => ⟨by omega, by unfold lenL; rw [List.length_map]; omega⟩), hat', Lm (by omega)]
    have : pickB (eqI (lnk x.S[i - 1]).fu (lnk x.S[i]).fu) (pickB (eqI (lnk x.S[i - 1]).fOf.fd (lnk x.S[i]).fOf.fd) (eqI (lnk x.S[i - 1]).fOf.fh (lnk x.S[i]).fOf.fh) false) false = false := by
     have q : Tb.eq (lnk x.S[i - 1]) (lnk x.S[i]) = false := by
      cases q : Tb.eq (lnk x.S[i - 1]) (lnk x.S[i]) with
      | false => rfl
      | true => exact absurd ((Tb.eq_iff _ _).1 q) hne
     rw [pickB_and, pickB_and, ← Bool.and_assoc]
     exact q
    rw [this]
    rfl) (by
   unfold ge.loop2
   simp only
   rw [ltI_f (by unfold lenL; rw [List.length_map]; omega), cond_false])
 obtain ⟨t3, ht3, v3, rfl⟩ := walk_rel (body := ge.loop3 ((stA x.L x.nx x.T m).fb.fe, (stA x.L x.nx x.T m).fb.fj, (stA x.L x.nx x.T m).fc, (stA x.L x.nx x.T m).ff, (stA x.L x.nx x.T m).fg)) (fun p s => ∃ seen, SeenOk x.T p 0 seen ∧ s = ((p : Int), seen)) (fun t => ∃ v, t = .go v) 100 (by
   rintro p s hp ⟨seen, hS, rfl⟩
   unfold ge.loop3
   simp only
   rw [ltI_t (by omega), cond_true]
   obtain ⟨t4, ht4, seen4, rfl, hS4⟩ := walk_rel (body := ge.loop4 ((p : Int), seen) ((stA x.L x.nx x.T m).fb.fe, (stA x.L x.nx x.T m).fb.fj, (stA x.L x.nx x.T m).fc, (stA x.L x.nx x.T m).ff, (stA x.L x.nx x.T m).fg)) (fun q s => ∃ seen, SeenOk x.T p q seen ∧ s = ((q : Int), seen)) (fun t => ∃ seen, t = .go seen ∧ SeenOk x.T p 4 seen) 4 (by
     rintro q s hq ⟨seen', hS', rfl⟩
     unfold ge.loop4
     simp only
     rw [ltI_t (by omega), cond_true, track_d h, Lc, peer_d, Lc]
     simp only
     cases hf : findT x.T ⟨(p : Int), (q : Int)⟩ with
     | none =>
       have hh : hasT x.T ⟨(p : Int), (q : Int)⟩ = false := by unfold hasT; rw [hf]; rfl
       rw [hh, pickB_f, cond_false]
       have w5 : ∀ s3, loopF (ge.loop5 (trkV none, false) ((q : Int), seen') s3 ((stA x.L x.nx x.T m).fb.fe, (stA x.L x.nx x.T m).fb.fj, (stA x.L x.nx x.T m).fc, (stA x.L x.nx x.T m).ff, (stA x.L x.nx x.T m).fg)) (0, seen') = some (.go seen') := fun s3 => by
        rw [loopF_eq]
        have : ge.loop5 (trkV none, false) ((q : Int), seen') s3 ((stA x.L x.nx x.T m).fb.fe, (stA x.L x.nx x.T m).fb.fj, (stA x.L x.nx x.T m).fc, (stA x.L x.nx x.T m).ff, (stA x.L x.nx x.T m).fg) (0, seen') = some (.out (.go seen')) := by
         unfold ge.loop5
         rw [ltI_f (by simp [trkV, lenL]), cond_false]
        rw [this]
       rw [w5]
       simp only [Lc, flC_go]
       rw [Lm (by omega)]
       refine ⟨_, rfl, seen', fun y hy => ?_, rfl⟩
       obtain ⟨t, z1, z2, z3⟩ := hS' y hy
       exact ⟨t, z1, z2, z3.imp id fun z => ⟨z.1, by omega⟩⟩
     | some t =>
       obtain ⟨hm, hk⟩ := findT_mem hf
       have hh : hasT x.T ⟨(p : Int), (q : Int)⟩ = true := by unfold hasT; rw [hf]; rfl
       have h3 := h.tss t hm
       have hpe : (findL x.L (p : Int)).isSome = true := by
        have := (h.own t hm).1
        have e := congrArg Tc.fd hk
        simp only [keyT] at e
        rw [e] at this; exact this
       rw [hh, hpe, notB_f', pickB_and, Bool.and_false, cond_false]
       obtain ⟨t5, ht5, seen5, rfl, hS5⟩ := walk_rel (body := ge.loop5 (trkV (some t), true) ((q : Int), seen') ((p : Int), seen) ((stA x.L x.nx x.T m).fb.fe, (stA x.L x.nx x.T m).fb.fj, (stA x.L x.nx x.T m).fc, (stA x.L x.nx x.T m).ff, (stA x.L x.nx x.T m).fg))
        (fun j s => ∃ seen, (∀ y ∈ keysM seen, (∃ u ∈ x.T, y ∈ u.fa ∧ Ahd p q (keyT u)) ∨ ∃ (i : Nat) (hi : i < t.fa.length), i < j ∧ y = t.fa[i]) ∧ s = ((j : Int), seen)) (fun r => ∃ seen, r = .go seen ∧ SeenOk x.T p (q + 1) seen) t.fa.length (by
         rintro j s hj ⟨sn, hsn, rfl⟩
         have hnew : t.fa[j] ∉ keysM sn := fun hy => by
          rcases hsn _ hy with ⟨u, u1, u2, u3⟩ | ⟨i, hi, hij, e⟩
          ·have := all_uniq h.snd hm u1 (List.getElem_mem hj) u2
           subst this
           rw [hk] at u3
           unfold Ahd at u3
           simp only at u3
           omega
          ·have hn := all_nodup h.snd hm
           unfold List.Nodup at hn
           exact List.pairwise_iff_getElem.1 hn i j hi hj hij e.symm
         unfold ge.loop5
         simp only [trkV]
         rw [ltI_t (by unfold lenL; omega), cond_true, Lf (inB_at hj), nthI_at hj, source_d h hm hj, Lc, Lm (by omega)]
         have e0 : getM eqI t.fa[j] 0 sn = 0 := getK_no eqI_ii hnew
         have e1 : addI .i64 0 1 = 1 := by decide
         rw [e0, e1]
         have e2 : getM eqI t.fa[j] 0 (setM eqI t.fa[j] 1 sn) = 1 := by
          rw [setK_no eqI_ii hnew]
          clear hsn
          induction sn with
          | nil => simp [getM, eqI]
          | cons e r ih =>
            simp only [keysM, List.map_cons, List.mem_cons, not_or] at hnew
            rw [List.cons_append, getM, if_neg (fun q => hnew.1 ((eqI_ii _ _).1 q))]
            exact ih hnew.2 (getK_no eqI_ii hnew.2)
         rw [e2]
         simp only
         rw [hk]
         simp only
         rw [ltI_f (by omega), notB_f', eqI_t rfl, eqI_t rfl, neI_f rfl]
         refine ⟨_, rfl, setM eqI t.fa[j] 1 sn, fun y hy => ?_, rfl⟩
         rw [keys_set hnew] at hy
         rcases List.mem_append.1 hy with hy | hy
         ·rcases hsn y hy with z | ⟨i, hi, hij, e⟩
          ·exact .inl z
          ·exact .inr ⟨i, hi, by omega, e⟩
         ·exact .inr ⟨j, hj, by omega, List.mem_singleton.1 hy⟩) (by
         rintro s ⟨sn, hsn, rfl⟩
         unfold ge.loop5
         simp only [trkV]
         rw [ltI_f (by unfold lenL; omega), cond_false]
         refine ⟨_, rfl, sn, rfl, fun y hy => ?_⟩
         rcases hsn y hy with ⟨u, u1, u2, u3⟩ | ⟨i, hi, _, e⟩
         ·exact ⟨u, u1, u2, u3.imp id fun z => ⟨z.1, by omega⟩⟩
         ·exact ⟨t, hm, e ▸ List.getElem_mem hi, .inr (by rw [hk]; exact ⟨rfl, by simp only; omega⟩)⟩) (s := (0, seen')) ⟨seen', fun y hy => .inl (hS' y hy), rfl⟩
       rw [ht5]
       simp only [Lc, flC_go]
       rw [Lm (by omega)]
       exact ⟨_, rfl, seen5, hS5, rfl⟩) (by
     rintro s ⟨sn, hsn, rfl⟩
     unfold ge.loop4
     simp only
     rw [ltI_f (by omega), cond_false]
     exact ⟨_, rfl, sn, rfl, hsn⟩) (s := (0, seen)) ⟨seen, hS, rfl⟩
   rw [ht4]
   simp only [Lc, flC_go]
   rw [Lm (by omega)]
   refine ⟨_, rfl, seen4, fun y hy => ?_, rfl⟩
   obtain ⟨t, z1, z2, z3⟩ := hS4 y hy
   refine ⟨t, z1, z2, .inl ?_⟩
   rcases z3 with z | ⟨z, _⟩ <;> omega) (by
   rintro s ⟨sn, hsn, rfl⟩
   unfold ge.loop3
   simp only
   rw [ltI_f (by omega), cond_false]
   exact ⟨_, rfl, _, rfl⟩) (s := (0, [])) ⟨[], (fun y hy => by cases hy), rfl⟩
 have hl := links_d (L := x.L) (nx := x.nx) (T := x.T) h.prm h.up (by omega)
 unfold ge
 rw [awake13_d, Lc, notB_f', cond_false, new_d, Lc, ht1]
 simp only [Lc, flC_go]
 rw [hl, Lc, w2]
 simp only [Lc, flC_go]
 rw [ht3]
 rfl
end Go.Proofs

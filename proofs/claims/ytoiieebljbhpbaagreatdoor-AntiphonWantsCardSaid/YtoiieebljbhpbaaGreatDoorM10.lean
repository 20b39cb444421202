import Derived.Test.YtoiieebljbhpbaaGreatDoorTs
import Derived.Test.YtoiieebljbhpbaaGreatDoorM03
import Derived.Test.YtoiieebljbhpbaaGreatDoorM08
import Derived.Test.YtoiieebljbhpbaaGreatDoorM11
import Derived.Test.YtoiieebljbhpbaaGreatDoorM19
section
namespace Go.Proofs
open Go.Ab
noncomputable def ga3.loop1 (x0 : Int) (s1 : Int × (List (Int × Ta)) × Int × (List (Tc × Te)) × (List (Tb × Tf)) × (List (Int × Tg))) : Option (Fl (Int × (List (Int × Ta)) × Int × (List (Tc × Te)) × (List (Tb × Tf)) × (List (Int × Tg))) (Fl ((List (Int × Ta)) × Int × (List (Tc × Te)) × (List (Tb × Tf)) × (List (Int × Tg))) Th)) :=
 bif (ltI s1.1 (minI (maxI x0 0) 6)) then (
  need (CatB ⟨#[112]⟩ (Utf8.encode (cvtI .i32 (addI .i64 97 s1.1)))) <|
  ((gl (Th.mk (Tp.mk s1.2.1 s1.2.2.1) s1.2.2.2.1 s1.2.2.2.2.1 s1.2.2.2.2.2) (Td.mk 1 ⟨#[104, 97, 108, 108]⟩ (catS ⟨#[112]⟩ (Utf8.encode (cvtI .i32 (addI .i64 97 s1.1)))) 0 0 0 0 false false []))).bind fun r2 =>
  ((gl r2.2.2 (Td.mk 3 ⟨#[]⟩ ⟨#[]⟩ s1.1 0 0 0 false true [(cvtI .u32 (addI .i64 (mulI .i64 100 s1.1) 1)), (cvtI .u32 (addI .i64 (mulI .i64 100 s1.1) 2)), (cvtI .u32 (addI .i64 (mulI .i64 100 s1.1) 3))]))).bind fun r3 =>
  some (.go ((addI .i64 s1.1 1), r3.2.2.fd.fe, r3.2.2.fd.fj, r3.2.2.fb, r3.2.2.fg, r3.2.2.fh))
 ) else (
   some (.out (.go (s1.2.1, s1.2.2.1, s1.2.2.2.1, s1.2.2.2.2.1, s1.2.2.2.2.2)))
 )
noncomputable def ga3 (x0 : Int) : Option Th :=
 (gaf).bind fun r1 =>
 ((loopF (ga3.loop1 x0) (0, r1.fd.fe, r1.fd.fj, r1.fb, r1.fg, r1.fh)).bind fun f => flC f fun (v1 : (List (Int × Ta)) × Int × (List (Tc × Te)) × (List (Tb × Tf)) × (List (Int × Tg))) =>
   some (Th.mk (Tp.mk v1.1 v1.2.1) v1.2.2.1 v1.2.2.2.1 v1.2.2.2.2)
 )
noncomputable def gbb : Option Bool :=
 ((ga3 2)).bind fun r1 =>
 need ((gaS r1.fd).isSome = true) <|
 bif (neI ((gaS r1.fd).getD dflt) 2) then (
  some false
 ) else (
   ((gl r1 (Td.mk 5 ⟨#[]⟩ ⟨#[]⟩ 1 0 0 0 false false []))).bind fun r2 =>
   ((gaY r2.2.2 2)).bind fun r3 =>
   ((gj r2.2.2)).bind fun r4 =>
   ((gl r2.2.2 (Td.mk 2 ⟨#[]⟩ ⟨#[]⟩ 0 0 0 0 false false []))).bind fun r5 =>
   need (Under (qaf (qaf (qaf (eqI r2.2.1 0) r3.2 false) (qaf (qaf (eqI r3.1.fOf.fc 0) (eqI r3.1.fOf.ff 0) false) (eqI r3.1.fo 1) false) false) (eqI (qat r4) 1) false) true ((gj r5.2.2).isSome = true)) <|
   some (qaf (qaf (qaf (qaf (eqI r2.2.1 0) r3.2 false) (qaf (qaf (eqI r3.1.fOf.fc 0) (eqI r3.1.fOf.ff 0) false) (eqI r3.1.fo 1) false) false) (eqI (qat r4) 1) false) (eqI (qat ((gj r5.2.2).getD dflt)) 0) false)
 )
noncomputable def gaZ.loop1 (x0 : Th) (x1 : Tn) (r2 : List Tb) (s1 : Int) : Option (Fl Int (Fl Unit Int)) :=
 bif (ltI s1 (qat x1.fg)) then (
  need (InB s1 (qat x1.fg)) <|
  ((gba x0 (Tb.mk ((nthI x1.fg s1).fu) (Tc.mk ((nthI x1.fg s1).fc) ((nthI x1.fg s1).fN))))).bind fun r3 =>
  need (InB s1 (qat r2)) <|
  bif (qaf (qaf (qaf (notB (qaf (eqI ((nthI r2 s1).fu) ((nthI x1.fg s1).fu)) (qaf (eqI ((nthI r2 s1).fOf.fc) ((nthI x1.fg s1).fc)) (eqI ((nthI r2 s1).fOf.ff) ((nthI x1.fg s1).fN)) false) false)) true (notB r3.2)) true (neI r3.1.fo ((nthI x1.fg s1).fo))) true (neB r3.1.fw ((nthI x1.fg s1).fw))) then (
   some (.out (.out (-1)))
  ) else (
    some (.go (addI .i64 s1 1))
  )
 ) else (
   some (.out (.go ()))
 )
noncomputable def gaZ.loop3 (x0 : Th) (x1 : Tn) (r4 : Te × Bool) (s2 : Int) (s3 : Int) : Option (Fl Int (Fl Unit (Fl Int (Fl Unit Int)))) :=
 bif (ltI s3 (qat ((nthI x1.fb s2).fa))) then (
  need (InB s3 (qat ((nthI x1.fb s2).fa))) <|
  ((gaY x0 (nthI ((nthI x1.fb s2).fa) s3))).bind fun r5 =>
  need (InB s3 (qat r4.1.fa)) <|
  bif (qaf (qaf (qaf (neI (nthI r4.1.fa s3) (nthI ((nthI x1.fb s2).fa) s3)) true (notB r5.2)) true (notB (qaf (eqI r5.1.fOf.fc ((nthI x1.fb s2).fc)) (eqI r5.1.fOf.ff ((nthI x1.fb s2).fN)) false))) true (neI r5.1.fo s3)) then (
   some (.out (.out (.out (.out (-1)))))
  ) else (
    some (.go (addI .i64 s3 1))
  )
 ) else (
   some (.out (.go ()))
 )
noncomputable def gaZ.loop2 (x0 : Th) (x1 : Tn) (s2 : Int) : Option (Fl Int (Fl Unit Int)) :=
 bif (ltI s2 (qat x1.fb)) then (
  need (InB s2 (qat x1.fb)) <|
  ((gaQ x0 (Tc.mk ((nthI x1.fb s2).fc) ((nthI x1.fb s2).fN)))).bind fun r4 =>
  bif (qaf (qaf (qaf (notB r4.2) true (neB r4.1.fq ((nthI x1.fb s2).fq))) true (neB r4.1.fB ((nthI x1.fb s2).fB))) true (neI (qat r4.1.fa) (qat ((nthI x1.fb s2).fa)))) then (
   some (.out (.out (-1)))
  ) else (
    ((loopF (gaZ.loop3 x0 x1 r4 s2) 0).bind fun f => flC f fun (_v3 : Unit) =>
      some (.go (addI .i64 s2 1))
    )
  )
 ) else (
   some (.out (.go ()))
 )
noncomputable def gaZ (x0 : Th) (x1 : Tn) : Option Int :=
 ((ga7 x0.fd x1.fT 0)).bind fun r1 =>
 bif (neI r1 0) then (
  some (-1)
 ) else (
   ((gj x0)).bind fun r2 =>
   bif (neI (qat r2) (qat x1.fg)) then (
    some (-1)
   ) else (
     ((loopF (gaZ.loop1 x0 x1 r2) 0).bind fun f => flC f fun (_v1 : Unit) =>
       ((loopF (gaZ.loop2 x0 x1) 0).bind fun f => flC f fun (_v2 : Unit) =>
         some 0
       )
     )
   )
 )
end Go.Proofs
end
section
namespace Go.Proofs
open Go.Ab Go.Lib
theorem walk_rel {S T : Type} {body : S → Option (Fl S T)} (I : Nat → S → Prop) (Q : T → Prop) (n : Nat) (h : ∀ i s, i < n → I i s → ∃ s', body s = some (.go s') ∧ I (i + 1) s') (he : ∀ s, I n s → ∃ t, body s = some (.out t) ∧ Q t) {s : S} (hs : I 0 s) : ∃ t, loopF body s = some t ∧ Q t := by
 have key : ∀ k i s, i + k = n → I i s → ∃ t, loopF body s = some t ∧ Q t := by
  intro k
  induction k with
  | zero =>
    intro i s hi hI;have : i = n := by omega
    subst this;obtain ⟨t, h1, h2⟩ := he s hI;exact ⟨t, by rw [loopF_eq, h1], h2⟩
  | succ k ih =>
    intro i s hi hI;obtain ⟨s', h1, h2⟩ := h i s (by omega) hI;obtain ⟨t, h3, h4⟩ := ih (i + 1) s' (by omega) h2;exact ⟨t, by rw [loopF_eq, h1]; exact h3, h4⟩
 exact key n 0 s (by omega) hs
def Rl (n : Nat) (x : St4) (a : Th) : Prop := ∃ m, Acc n x.L x.nx x.T x.S m ∧ a = stA x.L x.nx x.T m
theorem Rl.step {n : Nat} {x : St4} {a : Th} (h : Rl n x a) (hn1 : n + 1 ≤ 1000) {c : Cm} (hr : c.fm.size ≤ 1000) (hn : c.fp.size ≤ 1000) (hl : c.fa.length ≤ 1000) {v : Int} (hv : gaF c = some v) :
  ∃ a', gl a c = some ((doM x c v).2.1, (doM x c v).2.2, a') ∧ Rl (n + 1) (doM x c v).1 a' ∧ gbd (rfA x.L x.nx x.T x.S) c = some (rfA (doM x c v).1.L (doM x c v).1.nx (doM x c v).1.T (doM x c v).1.S, (doM x c v).2.1, (doM x c v).2.2) := by
 obtain ⟨m, h1, rfl⟩ := h;obtain ⟨m', h2, h3⟩ := do_d h1 hr hn hl hv;exact ⟨_, h2, ⟨m', h1.does hn1 hr hn hl hv h3, rfl⟩, rdo_d h1 hr hn hl hv⟩
theorem Rl.new : Rl 0 ⟨[], 0, [], []⟩ (stA [] 0 [] []) := ⟨[], Acc.new, rfl⟩
theorem new_d : gaf = some (stA [] 0 [] []) := rfl
theorem eta_A (a : Th) : Th.mk (Tp.mk a.fd.fe a.fd.fj) a.fb a.fg a.fh = a := by cases a; rfl
theorem lcut_d (s : ByteArray) {n : Int} (h0 : 0 ≤ n) : ∃ t, gax s n = some t ∧ (t.size : Int) ≤ n := by
 unfold gax;by_cases h : n < lenS s
 ·rw [ltI_t h];refine ⟨cutS s 0 n, ?_, ?_⟩
  ·simp only [cond_true];rw [Lh ⟨Int.le_refl _, h0, by omega⟩]
  ·rw [← bytesOf_len, cutS_b];simp only [List.length_take];omega
 ·rw [ltI_f h];refine ⟨s, rfl, ?_⟩;unfold lenS at h;omega
theorem few_d (c : Cm) : ∃ d, gap c = some d ∧ d.fm.size ≤ 1000 ∧ d.fp.size ≤ 1000 ∧ d.fa.length ≤ 1000 := by
 obtain ⟨r, h1, h2⟩ := lcut_d c.fm (n := 70) (by omega);obtain ⟨n, h3, h4⟩ := lcut_d c.fp (n := 70) (by omega);unfold gap;rw [h1, h3];simp only [Le];by_cases h : 5 < qat c.fa
 ·rw [ltI_t h, Lh (show CutB _ _ _ from ⟨by omega, by omega, by omega⟩)];refine ⟨_, rfl, (show r.size ≤ 1000 by omega), (show n.size ≤ 1000 by omega), ?_⟩;show (cutL c.fa 0 5).length ≤ 1000;unfold cutL;simp only [List.length_take];omega
 ·rw [ltI_f h];refine ⟨_, rfl, (show r.size ≤ 1000 by omega), (show n.size ≤ 1000 by omega), ?_⟩;show c.fa.length ≤ 1000;unfold qat at h;omega
def wantsL (S : List Sb) (k : Tc) : List Int := (S.filter fun s => ofK k s).map fun s => s.fu
theorem wants_next {S : List Sb} {i : Nat} (hi : i < S.length) (k : Tc) : wantsL (S.take (i + 1)) k = if ofK k S[i] = true then wantsL (S.take i) k ++ [S[i].fu] else wantsL (S.take i) k := by
 unfold wantsL;rw [take_next hi, List.filter_append, List.map_append];cases h : ofK k S[i] <;> simp [h]
theorem wants_len (S : List Sb) (k : Tc) : (wantsL S k).length ≤ S.length := by
 unfold wantsL;rw [List.length_map];exact List.length_filter_le _ _
theorem wants_d {n : Nat} {x : St4} {m : List (Tb × Tf)} (h : Acc n x.L x.nx x.T x.S m) (k : Tc) : gh (stA x.L x.nx x.T m) k = some (wantsL x.S k) := by
 have hsl := h.slen;have hnn := h.nn;unfold gh;rw [links_d h.prm h.up (by omega), Le]
 have w : loopF (gh.loop1 k (x.S.map lnk)) (0, []) = some (.go (wantsL x.S k)) := by
  refine walk_out (n := x.S.length) (fun i => ((i : Int), wantsL (x.S.take i) k)) (fun i hi => ?_) ?_
  ·have hw := wants_len (x.S.take i) k;simp only [List.length_take] at hw;have hat : nthI (x.S.map lnk) (i : Int) = lnk x.S[i] := by rw [qah (by simpa using hi), List.getElem_map]
   unfold gh.loop1;simp only;rw [ltI_t (by unfold qat; rw [List.length_map]; omega), cond_true, Lh (inB_at (by simpa using hi)), hat, Lr (by omega), Lh (show AppB (qat (wantsL (x.S.take i) k)) 1 8 from ⟨by unfold qat; omega, by unfold qat; omega⟩), wants_next hi]
   have e : qaf (eqI (lnk x.S[i]).fOf.fc k.fc) (eqI (lnk x.S[i]).fOf.ff k.ff) false = ofK k x.S[i] := by
    rw [qai]; rfl
   rw [e];cases ofK k x.S[i] <;> rfl
  ·unfold gh.loop1;simp only;rw [ltI_f (by unfold qat; rw [List.length_map]; omega), cond_false, List.take_length]
 rw [w]; rfl
theorem neB_self (b : Bool) : neB b b = false := by cases b <;> rfl
end Go.Proofs
end
section
namespace Go.Proofs
open Go.Ab
noncomputable def gaV.loop2 (r3 : Td) (r6 : Tn × Int × Int) (r9 : List Int) (s2 : Int × Int) : Option (Fl (Int × Int) (Fl Int (Fl (Int × (List (Int × Ta)) × Int × (List (Tc × Te)) × (List (Tb × Tf)) × (List (Int × Tg)) × Tn) (Fl ((List (Int × Ta)) × Int × (List (Tc × Te)) × (List (Tb × Tf)) × (List (Int × Tg)) × Tn) Bool)))) :=
 bif (ltI s2.1 (qat r6.1.fg)) then (
  need (InB s2.1 (qat r6.1.fg)) <|
  bif (qaf (eqI ((nthI r6.1.fg s2.1).fc) r3.fOf) (eqI ((nthI r6.1.fg s2.1).fN) r3.ff) false) then (
   need (Under (leqI (qat r9) s2.2) false (InB s2.2 (qat r9))) <|
   bif (qaf (leqI (qat r9) s2.2) true (neI (nthI r9 s2.2) ((nthI r6.1.fg s2.1).fu))) then (
    some (.out (.out (.out (.out false))))
   ) else (
     some (.go ((addI .i64 s2.1 1), (addI .i64 s2.2 1)))
   )
  ) else (
    some (.go ((addI .i64 s2.1 1), s2.2))
  )
 ) else (
   some (.out (.go s2.2))
 )
noncomputable def gaV.loop1 (x0 : List Td) (s1 : Int × (List (Int × Ta)) × Int × (List (Tc × Te)) × (List (Tb × Tf)) × (List (Int × Tg)) × Tn) : Option (Fl (Int × (List (Int × Ta)) × Int × (List (Tc × Te)) × (List (Tb × Tf)) × (List (Int × Tg)) × Tn) (Fl ((List (Int × Ta)) × Int × (List (Tc × Te)) × (List (Tb × Tf)) × (List (Int × Tg)) × Tn) Bool)) :=
 bif (qaf (ltI s1.1 (qat x0)) (ltI s1.1 80) false) then (
  need (InB s1.1 (qat x0)) <|
  ((gap (nthI x0 s1.1))).bind fun r3 =>
  ((gl (Th.mk (Tp.mk s1.2.1 s1.2.2.1) s1.2.2.2.1 s1.2.2.2.2.1 s1.2.2.2.2.2.1) r3)).bind fun r4 =>
  ((gLaw07Told r3)).bind fun r5 =>
  ((gbd s1.2.2.2.2.2.2 r5)).bind fun r6 =>
  need (Under (qaf (neI r4.1 r6.2.1) true (neI r4.2.1 r6.2.2)) false ((gaZ r4.2.2 r6.1).isSome = true)) <|
  bif (qaf (qaf (neI r4.1 r6.2.1) true (neI r4.2.1 r6.2.2)) true (neI ((gaZ r4.2.2 r6.1).getD dflt) 0)) then (
   some (.out (.out false))
  ) else (
    ((gaQ r4.2.2 (Tc.mk r3.fOf r3.ff))).bind fun r7 =>
    ((gan r6.1 r3.fOf r3.ff)).bind fun r8 =>
    bif (neB r7.2 (leqI 0 r8)) then (
     some (.out (.out false))
    ) else (
      ((gh r4.2.2 (Tc.mk r3.fOf r3.ff))).bind fun r9 =>
      ((loopF (gaV.loop2 r3 r6 r9) (0, 0)).bind fun f => flC f fun (v2 : Int) =>
        bif (neI v2 (qat r9)) then (
         some (.out (.out false))
        ) else (
          some (.go ((addI .i64 s1.1 1), r4.2.2.fd.fe, r4.2.2.fd.fj, r4.2.2.fb, r4.2.2.fg, r4.2.2.fh, r6.1))
        )
      )
    )
  )
 ) else (
   some (.out (.go (s1.2.1, s1.2.2.1, s1.2.2.2.1, s1.2.2.2.2.1, s1.2.2.2.2.2.1, s1.2.2.2.2.2.2)))
 )
noncomputable def gaV (x0 : List Td) : Option Bool :=
 (gbb).bind fun r1 =>
 bif (notB r1) then (
  some false
 ) else (
   (gaf).bind fun r2 =>
   ((loopF (gaV.loop1 x0) (0, r2.fd.fe, r2.fd.fj, r2.fb, r2.fg, r2.fh, (Tn.mk (Tq.mk [] 0) [] []))).bind fun f => flC f fun (_v1 : (List (Int × Ta)) × Int × (List (Tc × Te)) × (List (Tb × Tf)) × (List (Int × Tg)) × Tn) =>
     some true
   )
 )
end Go.Proofs
end
section
namespace Go.Proofs
open Go.Ab
noncomputable def gaW.loop2 (x0 : Int) (s1 : Int × (List (Int × Ta)) × Int × (List (Tc × Te)) × (List (Tb × Tf)) × (List (Int × Tg))) (s2 : Int × (List (Int × Ta)) × Int × (List (Tc × Te)) × (List (Tb × Tf)) × (List (Int × Tg))) : Option (Fl (Int × (List (Int × Ta)) × Int × (List (Tc × Te)) × (List (Tb × Tf)) × (List (Int × Tg))) (Fl ((List (Int × Ta)) × Int × (List (Tc × Te)) × (List (Tb × Tf)) × (List (Int × Tg))) (Fl (Int × (List (Int × Ta)) × Int × (List (Tc × Te)) × (List (Tb × Tf)) × (List (Int × Tg))) (Fl ((List (Int × Ta)) × Int × (List (Tc × Te)) × (List (Tb × Tf)) × (List (Int × Tg))) Bool)))) :=
 bif (ltI s2.1 (addI .i64 2 (qaq .and .i64 x0 3))) then (
  ((gl (Th.mk (Tp.mk s2.2.1 s2.2.2.1) s2.2.2.2.1 s2.2.2.2.2.1 s2.2.2.2.2.2) (Td.mk 5 ⟨#[]⟩ ⟨#[]⟩ s1.1 s2.1 0 0 false false []))).bind fun r3 =>
  some (.go ((addI .i64 s2.1 1), r3.2.2.fd.fe, r3.2.2.fd.fj, r3.2.2.fb, r3.2.2.fg, r3.2.2.fh))
 ) else (
   some (.out (.go (s2.2.1, s2.2.2.1, s2.2.2.2.1, s2.2.2.2.2.1, s2.2.2.2.2.2)))
 )
noncomputable def gaW.loop1 (x0 : Int) (s1 : Int × (List (Int × Ta)) × Int × (List (Tc × Te)) × (List (Tb × Tf)) × (List (Int × Tg))) : Option (Fl (Int × (List (Int × Ta)) × Int × (List (Tc × Te)) × (List (Tb × Tf)) × (List (Int × Tg))) (Fl ((List (Int × Ta)) × Int × (List (Tc × Te)) × (List (Tb × Tf)) × (List (Int × Tg))) Bool)) :=
 bif (ltI s1.1 (addI .i64 2 (qaq .and .i64 x0 3))) then (
  ((loopF (gaW.loop2 x0 s1) (0, s1.2.1, s1.2.2.1, s1.2.2.2.1, s1.2.2.2.2.1, s1.2.2.2.2.2)).bind fun f => flC f fun (v2 : (List (Int × Ta)) × Int × (List (Tc × Te)) × (List (Tb × Tf)) × (List (Int × Tg))) =>
    some (.go ((addI .i64 s1.1 1), v2.1, v2.2.1, v2.2.2.1, v2.2.2.2.1, v2.2.2.2.2))
  )
 ) else (
   some (.out (.go (s1.2.1, s1.2.2.1, s1.2.2.2.1, s1.2.2.2.2.1, s1.2.2.2.2.2)))
 )
noncomputable def gaW (x0 : Int) (x1 : Int) (x2 : Bool) : Option Bool :=
 (gbb).bind fun r1 =>
 bif (notB r1) then (
  some false
 ) else (
   ((ga3 (addI .i64 2 (qaq .and .i64 x0 3)))).bind fun r2 =>
   need (NonZ (addI .i64 2 (qaq .and .i64 x0 3))) <|
   ((loopF (gaW.loop1 x0) (0, r2.fd.fe, r2.fd.fj, r2.fb, r2.fg, r2.fh)).bind fun f => flC f fun (v1 : (List (Int × Ta)) × Int × (List (Tc × Te)) × (List (Tb × Tf)) × (List (Int × Tg))) =>
     ((gj (Th.mk (Tp.mk v1.1 v1.2.1) v1.2.2.1 v1.2.2.2.1 v1.2.2.2.2))).bind fun r4 =>
     need (Under (neI (qat r4) (mulI .i64 (addI .i64 2 (qaq .and .i64 x0 3)) (subI .i64 (addI .i64 2 (qaq .and .i64 x0 3)) 1))) false ((gh (Th.mk (Tp.mk v1.1 v1.2.1) v1.2.2.1 v1.2.2.2.1 v1.2.2.2.2) (Tc.mk (remI (qaq .and .i64 x1 255) (addI .i64 2 (qaq .and .i64 x0 3))) 0)).isSome = true)) <|
     bif (qaf (neI (qat r4) (mulI .i64 (addI .i64 2 (qaq .and .i64 x0 3)) (subI .i64 (addI .i64 2 (qaq .and .i64 x0 3)) 1))) true (neI (qat ((gh (Th.mk (Tp.mk v1.1 v1.2.1) v1.2.2.1 v1.2.2.2.1 v1.2.2.2.2) (Tc.mk (remI (qaq .and .i64 x1 255) (addI .i64 2 (qaq .and .i64 x0 3))) 0)).getD dflt)) (subI .i64 (addI .i64 2 (qaq .and .i64 x0 3)) 1))) then (
      some false
     ) else (
       ((
        bif x2 then (
         some (.go ((mulI .i64 (subI .i64 (addI .i64 2 (qaq .and .i64 x0 3)) 1) (subI .i64 (addI .i64 2 (qaq .and .i64 x0 3)) 2)), 2))
        ) else (
          some (.go ((mulI .i64 (subI .i64 (addI .i64 2 (qaq .and .i64 x0 3)) 1) (subI .i64 (addI .i64 2 (qaq .and .i64 x0 3)) 1)), 4))
        )
        : Option (Fl (Int × Int) Bool)).bind fun f => flC f fun (v3 : Int × Int) =>
        ((gl (Th.mk (Tp.mk v1.1 v1.2.1) v1.2.2.1 v1.2.2.2.1 v1.2.2.2.2) (Td.mk v3.2 ⟨#[]⟩ ⟨#[]⟩ (remI (qaq .and .i64 x1 255) (addI .i64 2 (qaq .and .i64 x0 3))) 0 0 0 false false []))).bind fun r5 =>
        need (Under (neI r5.2.1 0) false ((gj r5.2.2).isSome = true)) <|
        need (Under (qaf (neI r5.2.1 0) true (neI (qat ((gj r5.2.2).getD dflt)) v3.1)) false ((gh r5.2.2 (Tc.mk (remI (qaq .and .i64 x1 255) (addI .i64 2 (qaq .and .i64 x0 3))) 0)).isSome = true)) <|
        bif (qaf (qaf (neI r5.2.1 0) true (neI (qat ((gj r5.2.2).getD dflt)) v3.1)) true (neI (qat ((gh r5.2.2 (Tc.mk (remI (qaq .and .i64 x1 255) (addI .i64 2 (qaq .and .i64 x0 3))) 0)).getD dflt)) 0)) then (
         some false
        ) else (
          need (NonZ (addI .i64 2 (qaq .and .i64 x0 3))) <|
          ((gl r5.2.2 (Td.mk 3 ⟨#[]⟩ ⟨#[]⟩ (remI (addI .i64 (remI (qaq .and .i64 x1 255) (addI .i64 2 (qaq .and .i64 x0 3))) 1) (addI .i64 2 (qaq .and .i64 x0 3))) 0 2 0 false false [(cvtI .u32 (addI .i64 (mulI .i64 100 (remI (qaq .and .i64 x1 255) (addI .i64 2 (qaq .and .i64 x0 3)))) 2))]))).bind fun r6 =>
          ((gaY r6.2.2 (cvtI .u32 (addI .i64 (mulI .i64 100 (remI (qaq .and .i64 x1 255) (addI .i64 2 (qaq .and .i64 x0 3)))) 2)))).bind fun r7 =>
          some (qaf (qaf (eqI r6.2.1 0) r7.2 false) (qaf (qaf (eqI r7.1.fOf.fc (remI (addI .i64 (remI (qaq .and .i64 x1 255) (addI .i64 2 (qaq .and .i64 x0 3))) 1) (addI .i64 2 (qaq .and .i64 x0 3)))) (eqI r7.1.fOf.ff 2) false) (eqI r7.1.fo 0) false) false)
        )
       )
     )
   )
 )
end Go.Proofs
end

import Derived.Test.YtoiieebljbhpbaaGreatDoorTs
import Derived.Test.YtoiieebljbhpbaaGreatDoorM20
import Derived.Test.YtoiieebljbhpbaaGreatDoorM16
import Derived.Test.YtoiieebljbhpbaaGreatDoorM09
import Derived.Test.YtoiieebljbhpbaaGreatDoorNq
import Derived.Shelf.Strings.CaseAny
import Derived.Lib.CaseU
import Derived.Lib.IsU
import Derived.Test.YtoiieebljbhpbaaGreatDoorM22
import Derived.Test.YtoiieebljbhpbaaGreatDoorM17
import Derived.Laws.Bits64
import Derived.Laws.BitsAllLaws
section
namespace Go.Proofs
open Go.Ab
noncomputable def gaJ : Option Tp :=
 some (Tp.mk [] 0)
noncomputable def gaS (x0 : Tp) : Option Int :=
 some (qat x0.fe)
noncomputable def gU (x0 : Tp) (x1 : Int) : Option (Ta × Bool) :=
 some ((getM eqI x1 (Ta.mk 0 ⟨⟨[]⟩⟩ ⟨⟨[]⟩⟩) x0.fe), (hasM eqI x1 x0.fe))
noncomputable def gG.loop1 (x0 : Tp) (x1 : ByteArray) (s1 : Int × List Ta) : Option (Fl (Int × List Ta) (Fl (List Ta) (List Ta))) :=
 bif (ltI s1.1 (qat (sortL (keysM x0.fe)))) then (
  need (InB s1.1 (qat (sortL (keysM x0.fe)))) <|
  ((gag ((getM eqI (nthI (sortL (keysM x0.fe)) s1.1) (Ta.mk 0 ⟨⟨[]⟩⟩ ⟨⟨[]⟩⟩) x0.fe).fm) x1)).bind fun r1 =>
  bif r1 then (
   need (AppB (qat s1.2) 1 40) <|
   some (.go ((addI .i64 s1.1 1), (appL s1.2 [(getM eqI (nthI (sortL (keysM x0.fe)) s1.1) (Ta.mk 0 ⟨⟨[]⟩⟩ ⟨⟨[]⟩⟩) x0.fe)])))
  ) else (
    some (.go ((addI .i64 s1.1 1), s1.2))
  )
 ) else (
   some (.out (.go s1.2))
 )
noncomputable def gG (x0 : Tp) (x1 : ByteArray) : Option (List Ta) :=
 need (KeysB (keysM x0.fe)) <|
 ((loopF (gG.loop1 x0 x1) (0, [])).bind fun f => flC f fun (v1 : List Ta) =>
   some v1
 )
noncomputable def gaa (x0 : Tp) (x1 : Int) : Option (Int × Tp) :=
 bif (notB (hasM eqI x1 x0.fe)) then (
  some (8, x0)
 ) else (
   some (0, (Tp.mk (delM eqI x1 x0.fe) x0.fj))
 )
noncomputable def gD (x0 : Tp) (x1 : Int) (x2 : Int) : Option Bool :=
 need (Under (qaf (qaf (hasM eqI x1 x0.fe) (hasM eqI x2 x0.fe) false) (neI x1 x2) false) true ((gag ((getM eqI x1 (Ta.mk 0 ⟨⟨[]⟩⟩ ⟨⟨[]⟩⟩) x0.fe).fm) ((getM eqI x2 (Ta.mk 0 ⟨⟨[]⟩⟩ ⟨⟨[]⟩⟩) x0.fe).fm)).isSome = true)) <|
 some (qaf (qaf (qaf (hasM eqI x1 x0.fe) (hasM eqI x2 x0.fe) false) (neI x1 x2) false) ((gag ((getM eqI x1 (Ta.mk 0 ⟨⟨[]⟩⟩ ⟨⟨[]⟩⟩) x0.fe).fm) ((getM eqI x2 (Ta.mk 0 ⟨⟨[]⟩⟩ ⟨⟨[]⟩⟩) x0.fe).fm)).getD dflt) false)
end Go.Proofs
end
section
namespace Go.Proofs
open Go.Ab
noncomputable def gJ (x0 : Th) (x1 : Int) : Option Int :=
 ((gaD x0 x1)).bind fun r1 =>
 some r1
end Go.Proofs
end
section
namespace Go.Proofs
open Go.Ab
noncomputable def gS (x0 : Tp) : Option (List ByteArray) :=
 ((gaK x0)).bind fun r1 =>
 some r1
end Go.Proofs
end
section
namespace Go.Proofs
open Go.Ab
noncomputable def gab (x0 : Ta) (x1 : ByteArray) : Option Bool :=
 ((gag x0.fp x1)).bind fun r1 =>
 some r1
noncomputable def ga.loop1 (x0 : List Ta) (x1c0 : ByteArray) (s1 : Int) : Option (Fl Int (Fl Unit Int)) :=
 bif (ltI s1 (qat x0)) then (
  need (InB s1 (qat x0)) <|
  ((gab (Ta.mk ((nthI x0 s1).fN) ((nthI x0 s1).fp) ((nthI x0 s1).fm)) x1c0)).bind fun r1 =>
  bif r1 then (
   some (.out (.out s1))
  ) else (
    some (.go (addI .i64 s1 1))
  )
 ) else (
   some (.out (.go ()))
 )
noncomputable def ga (x0 : List Ta) (x1c0 : ByteArray) : Option Int :=
 ((loopF (ga.loop1 x0 x1c0) 0).bind fun f => flC f fun (_v1 : Unit) =>
   some (-1)
 )
noncomputable def gc (x0 : List Ta) (x1c0 : ByteArray) : Option Bool :=
 ((ga x0 x1c0)).bind fun r1 =>
 some (leqI 0 r1)
noncomputable def gP (x0 : Tp) (x1 : ByteArray) (x2 : ByteArray) : Option (Int × Int × Tp) :=
 ((gE x1)).bind fun r1 =>
 need (Under (neI r1 0) false ((gE x2).isSome = true)) <|
 bif (qaf (neI r1 0) true (neI ((gE x2).getD dflt) 0)) then (
  some (0, 6, x0)
 ) else (
   ((gG x0 x1)).bind fun r2 =>
   ((
    ((gc r2 x2)).bind fun r3 =>
    bif r3 then (
     some (.out (0, 10, x0))
    ) else (
      ((
       bif (leqI 16 (qat r2)) then (
        some (.go true)
       ) else (
         need (Under (eqI (qat r2) 0) true ((gS x0).isSome = true)) <|
         bif (qaf (eqI (qat r2) 0) (leqI 8 (qat ((gS x0).getD dflt))) false) then (
          some (.go true)
         ) else (
           some (.go (ltI 65535 x0.fj))
         )
       )
       : Option (Fl Bool (Fl Unit (Int × Int × Tp)))).bind fun f => flC f fun (v2 : Bool) =>
       bif v2 then (
        some (.out (0, 11, x0))
       ) else (
         some (.go ())
       )
      )
    )
    : Option (Fl Unit (Int × Int × Tp))).bind fun f => flC f fun (_v1 : Unit) =>
    some (x0.fj, 0, (Tp.mk (setM eqI x0.fj (Ta.mk x0.fj x2 x1) x0.fe) (addI .i64 x0.fj 1)))
   )
 )
end Go.Proofs
end
section
namespace Go.Proofs
open Go.Ab Go.Lib
theorem lower_rng {r : Int} (h0 : 0 ≤ r) (h1 : r ≤ 1114111) : I32B (lowerR r) := by
 obtain ⟨n, rfl⟩ : ∃ n : Nat, r = n := ⟨r.toNat, by omega⟩;have := toLowerU_range n (by omega);unfold lowerR;exact ⟨by omega, by omega⟩
theorem lower_S (s : ByteArray) (pos : Nat) : I32B (lowerR (runeS s pos)) := by
 rw [runeS_d];have := rune_rng (restS s pos);exact lower_rng this.1 this.2
noncomputable def foldS (s : ByteArray) : ByteArray := runesBytes ((scan s 0).map lowerR)
theorem foldS_b (s : ByteArray) : qar (foldS s) = ((scan s 0).map lowerR).flatMap encodeRune := runes_b _
theorem runeZ_len (r : Int) : 1 ≤ (runeZ r).length ∧ (runeZ r).length ≤ 4 := encodeRuneZ_length r
theorem fold_loop (s : ByteArray) : ∀ (m pos : Nat) (out : List Int), (restS s pos).length ≤ m → out.length + 4 * m ≤ 100000000 →
  loopF (gV.loop1 s) (out, pos) = some (.go (out ++ (scan s pos).flatMap fun r => runeZ (lowerR r))) := by
 intro m
 induction m with
 | zero =>
   intro pos out hm _;have h : restS s pos = [] := List.eq_nil_of_length_eq_zero (by omega);rw [loopF_eq];simp [gV.loop1, nextB_f h, scan_f h]
 | succ m ih =>
   intro pos out hm hb;by_cases h : restS s pos = []
   ·rw [loopF_eq];simp [gV.loop1, nextB_f h, scan_f h]
   have hst := step_gt s pos;have hl := qbd s pos;have hl' := qbd s (stepS s pos);have hpos := List.length_pos_iff.2 h;have hz := runeZ_len (lowerR (runeS s pos));rw [loopF_eq, scan_t h];simp only [gV.loop1, nextB_t h, cond_true];rw [Lh (lower_S s pos), Lh (by unfold AppB qat; omega)];simp only [];rw [ih _ _ (by omega) (by simp only [appL, List.length_append]; omega)];simp [appL]
theorem fold_d {s : ByteArray} (hs : s.size ≤ 1000000) (h0 : qar s ≠ []) : gV s = some (foldS s) := by
 unfold gV;rw [fold_loop s s.size 0 [] (by rw [qbd]; exact Nat.le_refl _) (by simp only [List.length_nil]; omega)];simp only [Le, qal, List.nil_append];have e : ((scan s 0).flatMap fun r => runeZ (lowerR r)) = ((scan s 0).map lowerR).flatMap runeZ := by rw [List.flatMap_map]
 rw [e, Lh]
 ·congr 1;exact bytes_ext (by rw [numsRune_b, foldS_b])
 ·refine ⟨?_, fun x hx => ?_⟩
  ·have hb0 : restS s 0 = qar s := rfl;rw [scan_t (by rw [hb0]; exact h0), List.map_cons, List.flatMap_cons];intro q;have := congrArg List.length q;have hz := runeZ_len (lowerR (runeS s 0));simp only [List.length_append, List.length_nil] at this;omega
  ·obtain ⟨r, _, hx⟩ := List.mem_flatMap.1 hx;exact encodeRuneZ_byte r x hx
theorem rfold_loop (s : ByteArray) : ∀ (m pos : Nat) (out : List Int), (restS s pos).length ≤ m → out.length + m ≤ 10000000 →
  loopF (gar.loop1 s) (out, pos) = some (.go (out ++ (scan s pos).map lowerR)) := by
 intro m
 induction m with
 | zero =>
   intro pos out hm _;have h : restS s pos = [] := List.eq_nil_of_length_eq_zero (by omega);rw [loopF_eq];simp [gar.loop1, nextB_f h, scan_f h]
 | succ m ih =>
   intro pos out hm hb;by_cases h : restS s pos = []
   ·rw [loopF_eq];simp [gar.loop1, nextB_f h, scan_f h]
   have hst := step_gt s pos;have hl := qbd s pos;have hl' := qbd s (stepS s pos);have hpos := List.length_pos_iff.2 h;rw [loopF_eq, scan_t h];simp only [gar.loop1, nextB_t h, cond_true];rw [Lh (by unfold AppB qat; omega)];simp only [];rw [ih _ _ (by omega) (by simp only [appL, List.length_append, List.length_cons, List.length_nil]; omega)];simp [appL]
theorem rfold_d {s : ByteArray} (hs : s.size ≤ 1000000) : gar s = some (foldS s) := by
 unfold gar;rw [rfold_loop s s.size 0 [] (by rw [qbd]; exact Nat.le_refl _) (by simp only [List.length_nil]; omega)];rfl
theorem same_d {a b : ByteArray} (ha : a.size ≤ 1000000) (hb : b.size ≤ 1000000) (ha0 : qar a ≠ []) (hb0 : qar b ≠ []) : gag a b = some (eqS (foldS a) (foldS b)) := by
 unfold gag;rw [fold_d ha ha0, fold_d hb hb0];rfl
end Go.Proofs
end
section
namespace Go.Proofs
open Go.Ab Go.Lib
theorem blen_le : ∀ l : List Int, (l.flatMap encodeRune).length ≤ 4 * l.length
 | [] => by simp
 | r :: l => by
   have := blen_le l;have := (enc_len r).2;simp only [List.flatMap_cons, List.length_append, List.length_cons];omega
theorem fold_size (s : ByteArray) : (foldS s).size ≤ 4 * s.size := by
 rw [← bytesOf_len, foldS_b];have h1 := blen_le ((scan s 0).map lowerR);have h2 := (scan_len s 0).1;simp only [List.length_map] at h1;omega
theorem good_ne {s : ByteArray} (h : goodB (scan s 0) = true) : qar s ≠ [] := fun e => by
 have : scan s 0 = [] := scan_f (by rw [restS_0, e]);rw [this] at h;simp [goodB] at h
end Go.Proofs
end
section
namespace Go.Proofs
open Go.Ab
variable {V : Type}
theorem hasM_iff {k : Int} : ∀ {m : List (Int × V)}, hasM eqI k m = true ↔ k ∈ keysM m
 | [] => by simp [hasM, keysM]
 | e :: r => by
   have ih := hasM_iff (k := k) (m := r);simp only [hasM, keysM, List.map_cons, List.mem_cons];by_cases h : k = e.1
   ·rw [eqI_t h]; simp [qaf, h]
   ·rw [eqI_f h]; simp only [qaf, cond_false, h, false_or]; exact ih
theorem getM_of {k : Int} {v z : V} : ∀ {m : List (Int × V)}, (keysM m).Nodup → (k, v) ∈ m → getM eqI k z m = v
 | e :: r, hn, h => by
   simp only [keysM, List.map_cons, List.nodup_cons] at hn;simp only [getM];cases h with
   | head => rw [eqI_t rfl]; rfl
   | tail _ h =>
     have hne : k ≠ e.1 := fun q => hn.1 (List.mem_map.2 ⟨(k, v), h, q⟩);rw [eqI_f hne];simp only [Bool.false_eq_true, if_false];exact getM_of hn.2 h
theorem getM_no {k : Int} {z : V} : ∀ {m : List (Int × V)}, k ∉ keysM m → getM eqI k z m = z
 | [], _ => rfl
 | e :: r, h => by
   simp only [keysM, List.map_cons, List.mem_cons, not_or] at h;simp only [getM, eqI_f h.1, Bool.false_eq_true, if_false];exact getM_no h.2
theorem setM_no {k : Int} {v : V} : ∀ {m : List (Int × V)}, k ∉ keysM m → setM eqI k v m = m ++ [(k, v)]
 | [], _ => rfl
 | e :: r, h => by
   simp only [keysM, List.map_cons, List.mem_cons, not_or] at h;simp only [setM, eqI_f h.1, Bool.false_eq_true, if_false, List.cons_append];rw [setM_no h.2]
theorem sortL_of {l l' : List Int} (h : l.Perm l') (hs : l'.Pairwise (· ≤ ·)) : sortL l = l' := by
 unfold sortL;refine List.Perm.eq_of_pairwise (le := fun a b => a ≤ b) (fun a b _ _ h1 h2 => Int.le_antisymm h1 h2) ?_ hs ((List.mergeSort_perm l _).trans h);have := List.pairwise_mergeSort (le := fun x y : Int => decide (x ≤ y)) (fun a b c h1 h2 => by simp only [decide_eq_true_eq] at *; omega) (fun a b => by simp only [Bool.or_eq_true, decide_eq_true_eq]; omega) l;exact this.imp fun h => by simpa using h
theorem KeysB_of {l : List Int} (h : ∀ x ∈ l, -9223372036854775808 ≤ x ∧ x ≤ 9223372036854775807) (hl : l.length ≤ 1000000000000) : KeysB l :=
 ⟨fun x hx => by
  obtain ⟨h1, h2⟩ := h x hx;simp only [Lit.wf, Bool.and_eq_true, decide_eq_true_eq];exact ⟨h1, h2⟩, by omega⟩
end Go.Proofs
end
section
namespace Go.Proofs
open Go.Ab
noncomputable def gaM.loop1 (x0 : Tq) (x1 : Int) (s1 : Int) : Option (Fl Int (Fl Unit (Ta × Bool))) :=
 bif (ltI s1 (qat x0.fL)) then (
  need (InB s1 (qat x0.fL)) <|
  bif (eqI ((nthI x0.fL s1).fN) x1) then (
   some (.out (.out ((Ta.mk ((nthI x0.fL s1).fN) ((nthI x0.fL s1).fp) ((nthI x0.fL s1).fm)), true)))
  ) else (
    some (.go (addI .i64 s1 1))
  )
 ) else (
   some (.out (.go ()))
 )
noncomputable def gaM (x0 : Tq) (x1 : Int) : Option (Ta × Bool) :=
 ((loopF (gaM.loop1 x0 x1) 0).bind fun f => flC f fun (_v1 : Unit) =>
   some ((Ta.mk 0 ⟨#[]⟩ ⟨#[]⟩), false)
 )
noncomputable def gaU.loop1 (x0 : Tq) (x1 : ByteArray) (s1 : Int × List Ta) : Option (Fl (Int × List Ta) (Fl (List Ta) (List Ta))) :=
 bif (ltI s1.1 (qat x0.fL)) then (
  need (InB s1.1 (qat x0.fL)) <|
  ((gar ((nthI x0.fL s1.1).fm))).bind fun r1 =>
  ((gar x1)).bind fun r2 =>
  bif (eqS r1 r2) then (
   need (AppB (qat s1.2) 1 40) <|
   some (.go ((addI .i64 s1.1 1), (appL s1.2 [(Ta.mk ((nthI x0.fL s1.1).fN) ((nthI x0.fL s1.1).fp) ((nthI x0.fL s1.1).fm))])))
  ) else (
    some (.go ((addI .i64 s1.1 1), s1.2))
  )
 ) else (
   some (.out (.go s1.2))
 )
noncomputable def gaU (x0 : Tq) (x1 : ByteArray) : Option (List Ta) :=
 ((loopF (gaU.loop1 x0 x1) (0, [])).bind fun f => flC f fun (v1 : List Ta) =>
   some v1
 )
noncomputable def gaL.loop1 (x0 : Tq) (s1 : Int × List ByteArray) : Option (Fl (Int × List ByteArray) (Fl (List ByteArray) (List ByteArray))) :=
 bif (ltI s1.1 (qat x0.fL)) then (
  need (InB s1.1 (qat x0.fL)) <|
  need (CutB 0 s1.1 (qat x0.fL)) <|
  ((gaU (Tq.mk (cutL x0.fL 0 s1.1) 0) ((nthI x0.fL s1.1).fm))).bind fun r1 =>
  bif (eqI (qat r1) 0) then (
   ((gar ((nthI x0.fL s1.1).fm))).bind fun r2 =>
   need (AppB (qat s1.2) 1 16) <|
   some (.go ((addI .i64 s1.1 1), (appL s1.2 [r2])))
  ) else (
    some (.go ((addI .i64 s1.1 1), s1.2))
  )
 ) else (
   some (.out (.go s1.2))
 )
noncomputable def gaL (x0 : Tq) : Option (List ByteArray) :=
 ((loopF (gaL.loop1 x0) (0, [])).bind fun f => flC f fun (v1 : List ByteArray) =>
   some v1
 )
noncomputable def gaT.loop1 (x0 : Tq) (x2 : ByteArray) (r2 : List Ta) (s1 : Int) : Option (Fl Int (Fl Unit (Tq × Int × Int))) :=
 bif (ltI s1 (qat r2)) then (
  need (InB s1 (qat r2)) <|
  ((gar ((nthI r2 s1).fp))).bind fun r3 =>
  ((gar x2)).bind fun r4 =>
  bif (eqS r3 r4) then (
   some (.out (.out (x0, 0, 10)))
  ) else (
    some (.go (addI .i64 s1 1))
  )
 ) else (
   some (.out (.go ()))
 )
noncomputable def gaT (x0 : Tq) (x1 : ByteArray) (x2 : ByteArray) : Option (Tq × Int × Int) :=
 ((gat x1)).bind fun r1 =>
 need (Under (notB r1) false ((gat x2).isSome = true)) <|
 bif (qaf (notB r1) true (notB ((gat x2).getD dflt))) then (
  some (x0, 0, 6)
 ) else (
   ((gaU x0 x1)).bind fun r2 =>
   ((loopF (gaT.loop1 x0 x2 r2) 0).bind fun f => flC f fun (_v1 : Unit) =>
     need (Under (eqI (qat r2) 0) true (Under (leqI 16 (qat r2)) false ((gaL x0).isSome = true))) <|
     bif (qaf (qaf (leqI 16 (qat r2)) true (qaf (eqI (qat r2) 0) (leqI 8 (qat ((gaL x0).getD dflt))) false)) true (ltI 65535 x0.fj)) then (
      some (x0, 0, 11)
     ) else (
       need (AppB 0 (qat x0.fL) 40) <|
       need (AppB (qat x0.fL) 1 40) <|
       some ((Tq.mk (appL (appL [] x0.fL) [(Ta.mk x0.fj x2 x1)]) (addI .i64 x0.fj 1)), x0.fj, 0)
     )
   )
 )
noncomputable def gaR.loop1 (x0 : Tq) (x1 : Int) (s1 : Int × List Ta) : Option (Fl (Int × List Ta) (Fl (List Ta) (Tq × Int))) :=
 bif (ltI s1.1 (qat x0.fL)) then (
  need (InB s1.1 (qat x0.fL)) <|
  bif (neI ((nthI x0.fL s1.1).fN) x1) then (
   need (AppB (qat s1.2) 1 40) <|
   some (.go ((addI .i64 s1.1 1), (appL s1.2 [(Ta.mk ((nthI x0.fL s1.1).fN) ((nthI x0.fL s1.1).fp) ((nthI x0.fL s1.1).fm))])))
  ) else (
    some (.go ((addI .i64 s1.1 1), s1.2))
  )
 ) else (
   some (.out (.go s1.2))
 )
noncomputable def gaR (x0 : Tq) (x1 : Int) : Option (Tq × Int) :=
 ((loopF (gaR.loop1 x0 x1) (0, [])).bind fun f => flC f fun (v1 : List Ta) =>
   bif (eqI (qat v1) (qat x0.fL)) then (
    some (x0, 8)
   ) else (
     some ((Tq.mk v1 x0.fj), 0)
   )
 )
noncomputable def ga4 (x0 : Tq) (x1 : Int) (x2 : Int) : Option Bool :=
 ((gaM x0 x1)).bind fun r1 =>
 ((gaM x0 x2)).bind fun r2 =>
 need (Under (qaf (qaf r1.2 r2.2 false) (neI x1 x2) false) true ((gar r1.1.fm).isSome = true)) <|
 need (Under (qaf (qaf r1.2 r2.2 false) (neI x1 x2) false) true ((gar r2.1.fm).isSome = true)) <|
 some (qaf (qaf (qaf r1.2 r2.2 false) (neI x1 x2) false) (eqS ((gar r1.1.fm).getD dflt) ((gar r2.1.fm).getD dflt)) false)
end Go.Proofs
end
section
namespace Go.Proofs
open Go.Ab
theorem cutS_ofB (l : List UInt8) (a b : Int) : cutS (ofB l) a b = ofB ((l.drop a.toNat).take (b.toNat - a.toNat)) := bytes_ext (by rw [cutS_b, ofB_b, ofB_b])
theorem nil_ofB : (⟨#[]⟩ : ByteArray) = ofB [] := rfl
theorem numsOf_ofB (l : List UInt8) : numsOf (ofB l) = l.map fun b => (b.toNat : Int) := by
 unfold numsOf;rw [show (ofB l).data.toList = l from ofB_b l]
theorem eqS_ofB (l : List UInt8) : eqS (ofB l) ⟨#[]⟩ = l.isEmpty := by
 rw [eqS_b, nil_ofB, ofB_b, ofB_b];cases l <;> simp
theorem wrapU64 {x : Int} (h0 : 0 ≤ x) (h1 : x < 18446744073709551616) : IntKind.u64.wrap x = x := by
 rw [IntKind.wrap_u64]; omega
end Go.Proofs
end

import Derived.Test.YtoiieebljbhpbaaGreatDoorTs
import Derived.Test.YtoiieebljbhpbaaGreatDoorM11
import Derived.Test.YtoiieebljbhpbaaGreatDoorM08
import Derived.Test.YtoiieebljbhpbaaGreatDoorM03
import Derived.Test.YtoiieebljbhpbaaGreatDoorM13
import Derived.Test.YtoiieebljbhpbaaGreatDoorM07
import Derived.Lib.CaseU
import Derived.Lib.IsU
section
namespace Go.Proofs
open Go.Ab
noncomputable def gh.loop1 (x0 : Tn) (x1 : Td) (s1 : Int × (List (Int × Tj))) : Option (Fl (Int × (List (Int × Tj))) (Fl (List (Int × Tj)) Tn)) :=
 bif (ltI s1.1 (lenL ((getM Td.eq x1 (Th.mk false false []) x0.fa).fb))) then (
  need (InB s1.1 (lenL ((getM Td.eq x1 (Th.mk false false []) x0.fa).fb))) <|
  some (.go ((addI .i64 s1.1 1), (delM eqI (nthI ((getM Td.eq x1 (Th.mk false false []) x0.fa).fb) s1.1) s1.2)))
 ) else (
   some (.out (.go s1.2))
 )
noncomputable def gh (x0 : Tn) (x1 : Td) : Option Tn :=
 ((loopF (gh.loop1 x0 x1) (0, x0.fj)).bind fun f => flC f fun (v1 : (List (Int × Tj))) =>
   some (Tn.mk x0.fe (delM Td.eq x1 x0.fa) (keepK (fun l => !(Td.eq l.fOf x1)) x0.fd) v1)
 )
noncomputable def gi.loop1 (x1 : Int) (s1 : Int × Int × (List (Int × Ta)) × (List (Td × Th)) × (List (Tb × Tf)) × (List (Int × Tj))) : Option (Fl (Int × Int × (List (Int × Ta)) × (List (Td × Th)) × (List (Tb × Tf)) × (List (Int × Tj))) (Fl (Int × (List (Int × Ta)) × (List (Td × Th)) × (List (Tb × Tf)) × (List (Int × Tj))) (Int × Tn))) :=
 bif (ltI s1.1 4) then (
  ((gh (Tn.mk (Tq.mk s1.2.2.1 s1.2.1) s1.2.2.2.1 s1.2.2.2.2.1 s1.2.2.2.2.2) (Td.mk x1 s1.1))).bind fun r2 =>
  some (.go ((addI .i64 s1.1 1), r2.fe.fh, r2.fe.fg, r2.fa, r2.fd, r2.fj))
 ) else (
   some (.out (.go (s1.2.1, s1.2.2.1, s1.2.2.2.1, s1.2.2.2.2.1, s1.2.2.2.2.2)))
 )
noncomputable def gi (x0 : Tn) (x1 : Int) : Option (Int × Tn) :=
 ((gaf x0.fe x1)).bind fun r1 =>
 bif (neI r1.1 0) then (
  some (r1.1, (Tn.mk (Tq.mk r1.2.fg r1.2.fh) x0.fa x0.fd x0.fj))
 ) else (
   ((loopF (gi.loop1 x1) (0, r1.2.fh, r1.2.fg, x0.fa, x0.fd, x0.fj)).bind fun f => flC f fun (v1 : Int × (List (Int × Ta)) × (List (Td × Th)) × (List (Tb × Tf)) × (List (Int × Tj))) =>
     some (0, (Tn.mk (Tq.mk v1.2.1 v1.1) v1.2.2.1 (keepK (fun l => !(eqI l.fu x1)) v1.2.2.2.1) v1.2.2.2.2))
   )
 )
noncomputable def gf.loop1 (x0 : Tn) (x1 : Tc) (s1 : Int) : Option (Fl Int (Fl Unit (Int × Tn))) :=
 bif (ltI s1 (lenL x1.fb)) then (
  need (InB s1 (lenL x1.fb)) <|
  bif (hasM eqI (nthI x1.fb s1) x0.fj) then (
   some (.out (.out (16, x0)))
  ) else (
    some (.go (addI .i64 s1 1))
  )
 ) else (
   some (.out (.go ()))
 )
noncomputable def gf.loop2 (x1 : Tc) (s2 : Int × (List (Int × Tj))) : Option (Fl (Int × (List (Int × Tj))) (Fl (List (Int × Tj)) (Int × Tn))) :=
 bif (ltI s2.1 (lenL x1.fb)) then (
  need (InB s2.1 (lenL x1.fb)) <|
  some (.go ((addI .i64 s2.1 1), (setM eqI (nthI x1.fb s2.1) (Tj.mk (Td.mk x1.fc x1.ff) s2.1) s2.2)))
 ) else (
   some (.out (.go s2.2))
 )
noncomputable def gf (x0 : Tn) (x1 : Tc) : Option (Int × Tn) :=
 bif (hasM Td.eq (Td.mk x1.fc x1.ff) x0.fa) then (
  some (10, x0)
 ) else (
   ((loopF (gf.loop1 x0 x1) 0).bind fun f => flC f fun (_v1 : Unit) =>
     need (AppB 0 (lenL x1.fb) 4) <|
     ((loopF (gf.loop2 x1) (0, x0.fj)).bind fun f => flC f fun (v2 : (List (Int × Tj))) =>
       some (0, (Tn.mk x0.fe (setM Td.eq (Td.mk x1.fc x1.ff) (Th.mk x1.fq false x1.fb) x0.fa) x0.fd v2))
     )
   )
 )
noncomputable def gA (x0 : Tn) (x1 : Tc) : Option (Int × Tn) :=
 bif (eqI x1.fOf x1.fc) then (
  some (15, x0)
 ) else (
   ((gJ x0.fe x1.fc x1.fOf)).bind fun r1 =>
   bif (notB r1) then (
    some (7, x0)
   ) else (
     bif (notB (hasM Td.eq (Td.mk x1.fOf x1.ff) x0.fa)) then (
      some (9, x0)
     ) else (
       need (Under (notB (hasM Tb.eq (Tb.mk x1.fc (Td.mk x1.fOf x1.ff)) x0.fd)) true ((gL x0 x1.fc).isSome = true)) <|
       bif (pickB (notB (hasM Tb.eq (Tb.mk x1.fc (Td.mk x1.fOf x1.ff)) x0.fd)) (leqI 16 ((gL x0 x1.fc).getD dflt)) false) then (
        some (11, x0)
       ) else (
         some (0, (Tn.mk x0.fe x0.fa (setM Tb.eq (Tb.mk x1.fc (Td.mk x1.fOf x1.ff)) (Tf.mk x1.fp ((getM Tb.eq (Tb.mk x1.fc (Td.mk x1.fOf x1.ff)) (Tf.mk 0 false) x0.fd).fw)) x0.fd) x0.fj))
       )
     )
   )
 )
noncomputable def gI (x0 : Tn) (x1 : Tc) : Option (Int × Tn) :=
 ((
  bif (notB (hasM Tb.eq (Tb.mk x1.fc (Td.mk x1.fOf x1.ff)) x0.fd)) then (
   some (.out (12, x0))
  ) else (
    bif (eqI x1.fm 6) then (
     some (.go ((delM Tb.eq (Tb.mk x1.fc (Td.mk x1.fOf x1.ff)) x0.fd), (getM Tb.eq (Tb.mk x1.fc (Td.mk x1.fOf x1.ff)) (Tf.mk 0 false) x0.fd)))
    ) else (
      some (.go ((setM Tb.eq (Tb.mk x1.fc (Td.mk x1.fOf x1.ff)) (Tf.mk ((getM Tb.eq (Tb.mk x1.fc (Td.mk x1.fOf x1.ff)) (Tf.mk 0 false) x0.fd).fp) x1.fOn) x0.fd), (Tf.mk ((getM Tb.eq (Tb.mk x1.fc (Td.mk x1.fOf x1.ff)) (Tf.mk 0 false) x0.fd).fp) x1.fOn)))
    )
  )
  : Option (Fl ((List (Tb × Tf)) × Tf) (Int × Tn))).bind fun f => flC f fun (v1 : (List (Tb × Tf)) × Tf) =>
  some (0, (Tn.mk x0.fe x0.fa v1.1 x0.fj))
 )
noncomputable def gw (x0 : Tn) (x1 : Tc) : Option (Int × Tn) :=
 ((
  bif (notB (hasM Td.eq (Td.mk x1.fc x1.ff) x0.fa)) then (
   some (.out (9, x0))
  ) else (
    bif (eqI x1.fm 4) then (
     ((gh x0 (Td.mk x1.fc x1.ff))).bind fun r1 =>
     some (.go (r1.fe.fh, r1.fe.fg, r1.fa, r1.fd, r1.fj, (getM Td.eq (Td.mk x1.fc x1.ff) (Th.mk false false []) x0.fa)))
    ) else (
      some (.go (x0.fe.fh, x0.fe.fg, (setM Td.eq (Td.mk x1.fc x1.ff) (Th.mk ((getM Td.eq (Td.mk x1.fc x1.ff) (Th.mk false false []) x0.fa).fq) x1.fOn ((getM Td.eq (Td.mk x1.fc x1.ff) (Th.mk false false []) x0.fa).fb)) x0.fa), x0.fd, x0.fj, (Th.mk ((getM Td.eq (Td.mk x1.fc x1.ff) (Th.mk false false []) x0.fa).fq) x1.fOn ((getM Td.eq (Td.mk x1.fc x1.ff) (Th.mk false false []) x0.fa).fb))))
    )
  )
  : Option (Fl (Int × (List (Int × Ta)) × (List (Td × Th)) × (List (Tb × Tf)) × (List (Int × Tj)) × Th) (Int × Tn))).bind fun f => flC f fun (v1 : Int × (List (Int × Ta)) × (List (Td × Th)) × (List (Tb × Tf)) × (List (Int × Tj)) × Th) =>
  some (0, (Tn.mk (Tq.mk v1.2.1 v1.1) v1.2.2.1 v1.2.2.2.1 v1.2.2.2.2.1))
 )
noncomputable def gl (x0 : Tn) (x1 : Tc) : Option (Int × Int × Tn) :=
 ((gP x1)).bind fun r1 =>
 bif (neI r1 0) then (
  some (0, r1, x0)
 ) else (
   bif (eqI x1.fm 1) then (
    ((gT x0.fe x1.fk x1.fo)).bind fun r2 =>
    some (r2.1, r2.2.1, (Tn.mk (Tq.mk r2.2.2.fg r2.2.2.fh) x0.fa x0.fd x0.fj))
   ) else (
     ((gaa x0.fe x1.fc)).bind fun r3 =>
     bif (notB r3.2) then (
      some (0, 8, x0)
     ) else (
       ((
        bif (eqI x1.fm 2) then (
         ((gi x0 x1.fc)).bind fun r4 =>
         some (.out (0, r4.1, r4.2))
        ) else (
          bif (eqI x1.fm 3) then (
           ((gf x0 x1)).bind fun r5 =>
           some (.out (0, r5.1, r5.2))
          ) else (
            bif (eqI x1.fm 5) then (
             ((gA x0 x1)).bind fun r6 =>
             some (.out (0, r6.1, r6.2))
            ) else (
              ((
               bif (eqI x1.fm 6) then (
                some (.go true)
               ) else (
                 some (.go (eqI x1.fm 8))
               )
               : Option (Fl Bool (Fl Unit (Int × Int × Tn)))).bind fun f => flC f fun (v2 : Bool) =>
               bif v2 then (
                ((gI x0 x1)).bind fun r7 =>
                some (.out (0, r7.1, r7.2))
               ) else (
                 some (.go ())
               )
              )
            )
          )
        )
        : Option (Fl Unit (Int × Int × Tn))).bind fun f => flC f fun (_v1 : Unit) =>
        ((gw x0 x1)).bind fun r8 =>
        some (0, r8.1, r8.2)
       )
     )
   )
 )
end Go.Proofs
end
section
namespace Go.Proofs
open Go.Ab Go.Lib
def okV (y : Int) : Bool := decide ((0 ≤ y ∧ y < 55296) ∨ (57344 ≤ y ∧ y ≤ 1114111))
def cl (r : Int) : Nat := if r = 45 ∨ r = 95 ∨ r = 46 then 3 else bif isLetterU r then 1 else bif isDigitU r then 2 else 0
set_option maxRecDepth 1000000 in
theorem table_ok : (caseT.all fun x => (List.range (x.2.1 + 1 - x.1)).all fun k => toLowerU (convertR 1 (x.1 + k : Nat) x) == convertR 1 (x.1 + k : Nat) x && okV (convertR 1 (x.1 + k : Nat) x)) = true := by decide +kernel
set_option maxRecDepth 1000000 in
theorem table_cl : (caseT.all fun x => (List.range (x.2.1 + 1 - x.1)).all fun k => convertR 1 (x.1 + k : Nat) x == ((x.1 + k : Nat) : Int) || cl (x.1 + k : Nat) == 0 || cl (convertR 1 (x.1 + k : Nat) x) == cl (x.1 + k : Nat)) = true := by decide +kernel
theorem ascii_cl : ((List.range 26).all fun k => cl (65 + k : Nat) == cl (97 + k : Nat)) = true := by decide +kernel
theorem clsR_cl (r : Int) : clsR r = (cl r : Int) := by
 unfold clsR cl letterR digitR;split
 ·rfl
 ·cases isLetterU r
  ·cases isDigitU r <;> rfl
  ·rfl
theorem lookup_at (T : Array CaseRow) (r : Int) : ∀ (f lo hi : Nat), hi ≤ T.size → ∀ i, lookupIdx T r f lo hi = some i → i < T.size ∧ ((T.getD i (0, 0, 0, 0, 0)).1 : Int) ≤ r ∧ r ≤ ((T.getD i (0, 0, 0, 0, 0)).2.1 : Int)
 | 0, lo, hi, _, i, h => by simp [lookupIdx] at h
 | f + 1, lo, hi, hh, i, h => by
   rw [lookupIdx] at h;split at h
   ·split at h
    ·rename_i h1;cases h;exact ⟨by omega, h1⟩
    ·split at h
     ·exact lookup_at T r f lo _ (by omega) i h
     ·exact lookup_at T r f _ hi hh i h
   ·cases h
theorem lower_cases (r : Int) : toLowerU r = r ∨ (65 ≤ r ∧ r ≤ 90 ∧ toLowerU r = r + 32) ∨ ∃ x ∈ caseT, ∃ k : Nat, k < x.2.1 + 1 - x.1 ∧ r = ((x.1 + k : Nat) : Int) ∧ toLowerU r = convertR 1 (x.1 + k : Nat) x := by
 by_cases h : r ≤ 127
 ·by_cases h2 : 65 ≤ r ∧ r ≤ 90
  ·right; left;exact ⟨h2.1, h2.2, by unfold toLowerU; rw [if_pos h, if_pos h2]⟩
  ·left;unfold toLowerU;rw [if_pos h, if_neg h2]
 ·have e : toLowerU r = toR caseA 1 r := by unfold toLowerU; rw [if_neg h]
  unfold toR at e;split at e
  ·rename_i x hx;right; right;unfold lookupGo at hx;obtain ⟨i, hi, rfl⟩ := Option.map_eq_some_iff.1 hx;obtain ⟨h1, h2, h3⟩ := lookup_at caseA r _ _ _ (Nat.le_refl _) i hi;have hl : i < caseT.length := by simpa [caseA] using h1
   have hg : caseA.getD i (0, 0, 0, 0, 0) = caseT[i] := by simp [caseA, Array.getD, hl]
   rw [hg] at e h2 h3;have er : r = ((caseT[i].1 + (r.toNat - caseT[i].1) : Nat) : Int) := by omega
   refine ⟨caseT[i], List.getElem_mem hl, r.toNat - caseT[i].1, by omega, er, ?_⟩;rw [← er]; exact e
  ·exact .inl e
theorem row_ok {x : CaseRow} (hx : x ∈ caseT) {k : Nat} (hk : k < x.2.1 + 1 - x.1) : toLowerU (convertR 1 (x.1 + k : Nat) x) = convertR 1 (x.1 + k : Nat) x ∧ okV (convertR 1 (x.1 + k : Nat) x) = true := by
 have h := List.all_eq_true.1 (List.all_eq_true.1 table_ok x hx) k (List.mem_range.2 hk);simpa using h
theorem row_cl {x : CaseRow} (hx : x ∈ caseT) {k : Nat} (hk : k < x.2.1 + 1 - x.1) : convertR 1 (x.1 + k : Nat) x = ((x.1 + k : Nat) : Int) ∨ cl (x.1 + k : Nat) = 0 ∨ cl (convertR 1 (x.1 + k : Nat) x) = cl (x.1 + k : Nat) := by
 have h := List.all_eq_true.1 (List.all_eq_true.1 table_cl x hx) k (List.mem_range.2 hk);simpa [or_assoc] using h
theorem lower_idem (r : Int) : lowerR (lowerR r) = lowerR r := by
 unfold lowerR;rcases lower_cases r with h | ⟨h1, h2, h3⟩ | ⟨x, hx, k, hk, rfl, h3⟩
 ·rw [h, h]
 ·rw [h3];unfold toLowerU;rw [if_pos (by omega), if_neg (by omega)]
 ·rw [h3];exact (row_ok hx hk).1
theorem lower_valid {r : Int} (h : ValidR r) : ValidR (lowerR r) := by
 unfold lowerR;rcases lower_cases r with e | ⟨h1, h2, e⟩ | ⟨x, hx, k, hk, rfl, e⟩
 ·rw [e]; exact h
 ·rw [e]; left; omega
 ·rw [e];have q := (row_ok hx hk).2;unfold okV at q;have q2 := of_decide_eq_true q;exact q2
theorem cls_lower {r : Int} (h : clsR r ≠ 0) : clsR (lowerR r) = clsR r := by
 unfold lowerR;rw [clsR_cl] at h;rw [clsR_cl, clsR_cl];rcases lower_cases r with e | ⟨h1, h2, e⟩ | ⟨x, hx, k, hk, rfl, e⟩
 ·rw [e]
 ·rw [e];have := List.all_eq_true.1 ascii_cl (r - 65).toNat (List.mem_range.2 (by omega));have e1 : ((65 + (r - 65).toNat : Nat) : Int) = r := by omega
  have e2 : ((97 + (r - 65).toNat : Nat) : Int) = r + 32 := by omega
  rw [e1, e2] at this;have := of_decide_eq_true this;rw [this]
 ·rw [e];rcases row_cl hx hk with q | q | q
  ·rw [q]
  ·rw [q] at h; exact absurd rfl h
  ·rw [q]
theorem scan_runes {l : List Int} (h : ∀ r ∈ l, ValidR r) : scan (runesBytes l) 0 = l := by
 unfold scan;rw [restS_0, runes_b, runes_enc l h]
theorem scan_valid (s : ByteArray) (pos : Nat) : ∀ r ∈ scan s pos, ValidR r := runesL_valid _ _ (Nat.le_refl _)
theorem scan_fold (s : ByteArray) : scan (foldS s) 0 = (scan s 0).map lowerR := by
 unfold foldS;refine scan_runes fun r hr => ?_;obtain ⟨q, hq, rfl⟩ := List.mem_map.1 hr;exact lower_valid (scan_valid s 0 q hq)
theorem fold_idem (s : ByteArray) : foldS (foldS s) = foldS s := by
 have h : foldS (foldS s) = runesBytes ((scan (foldS s) 0).map lowerR) := rfl;rw [h, scan_fold, List.map_map];have : (scan s 0).map (lowerR ∘ lowerR) = (scan s 0).map lowerR := List.map_congr_left fun r _ => lower_idem r;rw [this]; rfl
theorem okFrom_low : ∀ (l : List Int) (p : Int), okFrom p l = true → okFrom p (l.map lowerR) = true
 | [], _, _ => rfl
 | r :: l, p, h => by
   rw [okFrom] at h;simp only [Bool.and_eq_true, decide_eq_true_eq] at h;obtain ⟨⟨h1, h2⟩, h3⟩ := h;have e := cls_lower h1;rw [List.map_cons, okFrom, e];simp only [Bool.and_eq_true, decide_eq_true_eq];refine ⟨⟨h1, ?_⟩, okFrom_low l _ h3⟩;simpa using h2
theorem good_fold {s : ByteArray} (h : goodB (scan s 0) = true) : goodB (scan (foldS s) 0) = true := by
 rw [scan_fold];unfold goodB at h ⊢;simp only [Bool.and_eq_true, decide_eq_true_eq, List.length_map] at h ⊢;exact ⟨h.1, okFrom_low _ _ h.2⟩
theorem blen_le : ∀ l : List Int, (l.flatMap encodeRune).length ≤ 4 * l.length
 | [] => by simp
 | r :: l => by
   have := blen_le l;have := (enc_len r).2;simp only [List.flatMap_cons, List.length_append, List.length_cons];omega
theorem fold_size (s : ByteArray) : (foldS s).size ≤ 4 * s.size := by
 rw [← bytesOf_len, foldS_b];have h1 := blen_le ((scan s 0).map lowerR);have h2 := (scan_len s 0).1;simp only [List.length_map] at h1;omega
theorem good_ne {s : ByteArray} (h : goodB (scan s 0) = true) : bytesOf s ≠ [] := fun e => by
 have : scan s 0 = [] := scan_f (by rw [restS_0, e]);rw [this] at h;simp [goodB] at h
end Go.Proofs
end

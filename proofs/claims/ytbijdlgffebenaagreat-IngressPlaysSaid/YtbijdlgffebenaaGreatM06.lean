/- What these functions compute, as plain functions. No condition. -/
import Derived.Test.YtbijdlgffebenaaGreatTs
import Derived.Test.YtbijdlgffebenaaGreatM09
import Derived.Test.YtbijdlgffebenaaGreatM03
import Derived.Test.YtbijdlgffebenaaGreatKl
section
namespace Go.Proofs
open Go.Ab
noncomputable def gaJ (x0 : ByteArray) : Option Tq :=
 some (Tq.mk x0 0)

noncomputable def gao (x0 : Tq) : Option Int :=
 some (lenS x0.fS)

noncomputable def gak (x0 : Tq) : Option Int :=
 some x0.fE

noncomputable def gV (x0 : Tq) (x1 : Int) : Option Tq :=
 bif (pickB (eqI x0.fE 0) (neI x1 0) false) then (
  some (Tq.mk ⟨#[]⟩ x1)
 ) else (
  some x0
 )

noncomputable def gz (x0 : Tq) (x1 : Int) : Option (ByteArray × Tq) :=
 bif (neI x0.fE 0) then (
  some (⟨#[]⟩, x0)
 ) else (
  bif (ltI x1 0) then (
   ((gV x0 5)).bind fun r1 =>
   some (⟨#[]⟩, r1)
  ) else (
   bif (ltI (lenS x0.fS) x1) then (
    ((gV x0 1)).bind fun r2 =>
    some (⟨#[]⟩, r2)
   ) else (
    need (CutB 0 x1 (lenS x0.fS)) <|
    need (CutB x1 (lenS x0.fS) (lenS x0.fS)) <|
    some ((cutS x0.fS 0 x1), (Tq.mk (cutS x0.fS x1 (lenS x0.fS)) x0.fE))
   )
  )
 )

noncomputable def gt.loop1 (r1 : ByteArray × Tq) (s1 : Int × Int) : Option (Fl (Int × Int) (Fl Int (Int × Tq))) :=
 bif (ltI s1.1 (lenL (numsOf r1.1))) then (
  need (InB s1.1 (lenL (numsOf r1.1))) <|
  need (NonN 8) <|
  some (.go ((addI .i64 s1.1 1), (bitsOp .or .u64 (shlI .u64 s1.2 8) (cvtI .u64 (nthI (numsOf r1.1) s1.1)))))
 ) else (
  some (.out (.go s1.2))
 )

noncomputable def gt (x0 : Tq) (x1 : Int) : Option (Int × Tq) :=
 ((gz x0 (minI (maxI x1 1) 8))).bind fun r1 =>
 ((loopF (gt.loop1 r1) (0, 0)).bind fun f => flC f fun (v1 : Int) =>
  some (v1, r1.2)
 )

noncomputable def gH (x0 : Tq) : Option (Int × Tq) :=
 ((gt x0 1)).bind fun r1 =>
 some ((cvtI .u8 r1.1), r1.2)

noncomputable def gM (x0 : Tq) : Option (ByteArray × Tq) :=
 ((gao x0)).bind fun r1 =>
 ((gz x0 r1)).bind fun r2 =>
 some (r2.1, r2.2)

noncomputable def gap : Option Te :=
 some (Te.mk false false 0 (-1) false (-1) (-1) false (-1))

noncomputable def gaK (x0 : Bool) (x1 : Int) : Option Int :=
 bif x0 then (
  some x1
 ) else (
  some 0
 )

noncomputable def gaz (x0 : Te) : Option Bool :=
 some (pickB (pickB (pickB (leqI 0 x0.fB) true (leqI 0 x0.fG)) true (leqI 0 x0.fH)) true (leqI 0 x0.fJ))

noncomputable def gai (x0 : Te) : Option ByteArray :=
 ((gaz x0)).bind fun r1 =>
 ((gaK r1 128)).bind fun r2 =>
 ((gaK x0.fI 32)).bind fun r3 =>
 ((gaK x0.fz 16)).bind fun r4 =>
 need (AppB 0 1 1) <|
 bif (notB r1) then (
  need (TextB (appL [] [(bitsOp .or .u8 (bitsOp .or .u8 (bitsOp .or .u8 r2 r3) r4) (cvtI .u8 (bitsOp .and .i64 x0.fD 7)))])) <|
  some (strOfNums (appL [] [(bitsOp .or .u8 (bitsOp .or .u8 (bitsOp .or .u8 r2 r3) r4) (cvtI .u8 (bitsOp .and .i64 x0.fD 7)))]))
 ) else (
  ((gaK (leqI 0 x0.fB) 128)).bind fun r5 =>
  ((gaK (leqI 0 x0.fG) 64)).bind fun r6 =>
  ((gaK (leqI 0 x0.fH) 32)).bind fun r7 =>
  ((gaK (leqI 0 x0.fJ) 16)).bind fun r8 =>
  need (AppB 1 1 1) <|
  ((
   bif (pickB (leqI 0 x0.fB) x0.fR false) then (
    none
   ) else (
    bif (leqI 0 x0.fB) then (
     need (AppB 2 1 1) <|
     some (.go (appL (appL (appL [] [(bitsOp .or .u8 (bitsOp .or .u8 (bitsOp .or .u8 r2 r3) r4) (cvtI .u8 (bitsOp .and .i64 x0.fD 7)))]) [(bitsOp .or .u8 (bitsOp .or .u8 (bitsOp .or .u8 r5 r6) r7) r8)]) [(cvtI .u8 (bitsOp .and .i64 x0.fB 127))]))
    ) else (
     some (.go (appL (appL [] [(bitsOp .or .u8 (bitsOp .or .u8 (bitsOp .or .u8 r2 r3) r4) (cvtI .u8 (bitsOp .and .i64 x0.fD 7)))]) [(bitsOp .or .u8 (bitsOp .or .u8 (bitsOp .or .u8 r5 r6) r7) r8)]))
    )
   )
   : Option (Fl (List Int) ByteArray)).bind fun f => flC f fun (v1 : List Int) =>
   ((
    bif (leqI 0 x0.fG) then (
     need (AppB (lenL v1) 1 1) <|
     some (.go (appL v1 [(cvtI .u8 x0.fG)]))
    ) else (
     some (.go v1)
    )
    : Option (Fl (List Int) ByteArray)).bind fun f => flC f fun (v2 : List Int) =>
    ((
     bif (pickB (leqI 0 x0.fH) true (leqI 0 x0.fJ)) then (
      need (NonN 6) <|
      ((gaK x0.fQ 32)).bind fun r9 =>
      need (AppB (lenL v2) 1 1) <|
      some (.go (appL v2 [(bitsOp .or .u8 (bitsOp .or .u8 (shlI .u8 (cvtI .u8 (maxI x0.fH 0)) 6) r9) (cvtI .u8 (maxI x0.fJ 0)))]))
     ) else (
      some (.go v2)
     )
     : Option (Fl (List Int) ByteArray)).bind fun f => flC f fun (v3 : List Int) =>
     need (TextB v3) <|
     some (strOfNums v3)
    )
   )
  )
 )

noncomputable def gX (x0 : Te) (x1 : Tq) : Option (Te × Tq) :=
 ((gH x1)).bind fun r1 =>
 ((
  bif (ltI 127 (cvtI .i64 r1.1)) then (
   need (NonN 8) <|
   ((gH r1.2)).bind fun r2 =>
   some (.go ((bitsOp .or .i64 (shlI .i64 (bitsOp .and .i64 (cvtI .i64 r1.1) 127) 8) (cvtI .i64 r2.1)), r2.2, (Te.mk x0.fI x0.fz x0.fD x0.fB true x0.fG x0.fH x0.fQ x0.fJ)))
  ) else (
   some (.go ((cvtI .i64 r1.1), r1.2, (Te.mk x0.fI x0.fz x0.fD x0.fB false x0.fG x0.fH x0.fQ x0.fJ)))
  )
  : Option (Fl (Int × Tq × Te) (Te × Tq))).bind fun f => flC f fun (v1 : Int × Tq × Te) =>
  some ((Te.mk v1.2.2.fI v1.2.2.fz v1.2.2.fD v1.1 v1.2.2.fR v1.2.2.fG v1.2.2.fH v1.2.2.fQ v1.2.2.fJ), v1.2.1)
 )

noncomputable def gas (x0 : ByteArray) : Option (Te × ByteArray × Int) :=
 ((gaJ x0)).bind fun r1 =>
 ((gH r1)).bind fun r2 =>
 (gap).bind fun r3 =>
 ((
  bif (ltI 127 r2.1) then (
   ((gH r2.2)).bind fun r4 =>
   some (.go (r4.1, r4.2))
  ) else (
   some (.go (0, r2.2))
  )
  : Option (Fl (Int × Tq) (Te × ByteArray × Int))).bind fun f => flC f fun (v1 : Int × Tq) =>
  ((
   bif (ltI 0 (bitsOp .and .u8 v1.1 128)) then (
    ((gX (Te.mk (ltI 0 (bitsOp .and .u8 r2.1 32)) (ltI 0 (bitsOp .and .u8 r2.1 16)) (cvtI .i64 (bitsOp .and .u8 r2.1 7)) r3.fB r3.fR r3.fG r3.fH r3.fQ r3.fJ) v1.2)).bind fun r5 =>
    some (.go (r5.2, r5.1))
   ) else (
    some (.go (v1.2, (Te.mk (ltI 0 (bitsOp .and .u8 r2.1 32)) (ltI 0 (bitsOp .and .u8 r2.1 16)) (cvtI .i64 (bitsOp .and .u8 r2.1 7)) r3.fB r3.fR r3.fG r3.fH r3.fQ r3.fJ)))
   )
   : Option (Fl (Tq × Te) (Te × ByteArray × Int))).bind fun f => flC f fun (v2 : Tq × Te) =>
   ((
    bif (ltI 0 (bitsOp .and .u8 v1.1 64)) then (
     ((gH v2.1)).bind fun r6 =>
     some (.go (r6.2, (Te.mk v2.2.fI v2.2.fz v2.2.fD v2.2.fB v2.2.fR (cvtI .i64 r6.1) v2.2.fH v2.2.fQ v2.2.fJ)))
    ) else (
     some (.go (v2.1, v2.2))
    )
    : Option (Fl (Tq × Te) (Te × ByteArray × Int))).bind fun f => flC f fun (v3 : Tq × Te) =>
    ((
     bif (ltI 0 (bitsOp .and .u8 v1.1 48)) then (
      ((gH v3.1)).bind fun r7 =>
      ((
       bif (ltI 0 (bitsOp .and .u8 v1.1 32)) then (
        need (NonN 6) <|
        some (.go (Te.mk v3.2.fI v3.2.fz v3.2.fD v3.2.fB v3.2.fR v3.2.fG (cvtI .i64 (shrI .u8 r7.1 6)) (ltI 0 (bitsOp .and .u8 r7.1 32)) v3.2.fJ))
       ) else (
        some (.go v3.2)
       )
       : Option (Fl Te (Fl (Tq × Te) (Te × ByteArray × Int)))).bind fun f => flC f fun (v5 : Te) =>
       bif (ltI 0 (bitsOp .and .u8 v1.1 16)) then (
        some (.go (r7.2, (Te.mk v5.fI v5.fz v5.fD v5.fB v5.fR v5.fG v5.fH v5.fQ (cvtI .i64 (bitsOp .and .u8 r7.1 31)))))
       ) else (
        some (.go (r7.2, v5))
       )
      )
     ) else (
      some (.go (v3.1, v3.2))
     )
     : Option (Fl (Tq × Te) (Te × ByteArray × Int))).bind fun f => flC f fun (v4 : Tq × Te) =>
     ((gak v4.1)).bind fun r8 =>
     bif (neI r8 0) then (
      some ((Te.mk false false 0 0 false 0 0 false 0), ⟨#[]⟩, r8)
     ) else (
      ((gM v4.1)).bind fun r9 =>
      some (v4.2, r9.1, 0)
     )
    )
   )
  )
 )

noncomputable def gav (x0 : Te) (x1 : ByteArray) : Option Bool :=
 need (Under (pickB (pickB x0.fz (eqI x0.fD 0) false) (neS x1 ⟨#[]⟩) false) true (InB 0 (lenS x1))) <|
 some (pickB (pickB (pickB x0.fz (eqI x0.fD 0) false) (neS x1 ⟨#[]⟩) false) (eqI (bitsOp .and .u8 (idxS x1 0) 1) 0) false)
end Go.Proofs
end
section
namespace Go.Proofs
open Go.Ab
noncomputable def gaw (x0 : Tk) (x1 : Int) : Option (Tk × ByteArray) :=
 bif (neI x0.fE 0) then (
  some (x0, ⟨#[]⟩)
 ) else (
  bif (ltI x1 0) then (
   some ((Tk.mk ⟨#[]⟩ 5), ⟨#[]⟩)
  ) else (
   bif (ltI (lenS x0.fS) x1) then (
    some ((Tk.mk ⟨#[]⟩ 1), ⟨#[]⟩)
   ) else (
    need (CutB x1 (lenS x0.fS) (lenS x0.fS)) <|
    need (CutB 0 x1 (lenS x0.fS)) <|
    some ((Tk.mk (cutS x0.fS x1 (lenS x0.fS)) 0), (cutS x0.fS 0 x1))
   )
  )
 )

noncomputable def gP.loop1 (x0 : ByteArray) (s1 : Int × Int) : Option (Fl (Int × Int) (Fl Int Int)) :=
 bif (ltI s1.1 (lenS x0)) then (
  need (InB s1.1 (lenS x0)) <|
  some (.go ((addI .i64 s1.1 1), (addI .u64 (mulI .u64 s1.2 256) (cvtI .u64 (idxS x0 s1.1)))))
 ) else (
  some (.out (.go s1.2))
 )

noncomputable def gP (x0 : ByteArray) : Option Int :=
 ((loopF (gP.loop1 x0) (0, 0)).bind fun f => flC f fun (v1 : Int) =>
  some v1
 )

noncomputable def gal (x0 : Tk) (x1 : Int) : Option (Tk × Int) :=
 ((gaw x0 (minI (maxI x1 1) 8))).bind fun r1 =>
 ((gP r1.2)).bind fun r2 =>
 some (r1.1, r2)

noncomputable def gaa (x0 : Tk) (x1 : Te) (x2 : Int) : Option (Tk × Te) :=
 ((
  need (NonZ 128) <|
  bif (eqI (quoI .i64 x2 128) 1) then (
   ((gal x0 1)).bind fun r1 =>
   bif (ltI 127 r1.2) then (
    ((gal r1.1 1)).bind fun r2 =>
    some (.go (r2.1, (Te.mk x1.fI x1.fz x1.fD (addI .i64 (mulI .i64 (cvtI .i64 (subI .u64 r1.2 128)) 256) (cvtI .i64 r2.2)) true x1.fG x1.fH x1.fQ x1.fJ)))
   ) else (
    some (.go (r1.1, (Te.mk x1.fI x1.fz x1.fD (cvtI .i64 r1.2) x1.fR x1.fG x1.fH x1.fQ x1.fJ)))
   )
  ) else (
   some (.go (x0, x1))
  )
  : Option (Fl (Tk × Te) (Tk × Te))).bind fun f => flC f fun (v1 : Tk × Te) =>
  ((
   need (NonZ 64) <|
   need (NonZ 2) <|
   bif (eqI (remI (quoI .i64 x2 64) 2) 1) then (
    ((gal v1.1 1)).bind fun r3 =>
    some (.go (r3.1, (Te.mk v1.2.fI v1.2.fz v1.2.fD v1.2.fB v1.2.fR (cvtI .i64 r3.2) v1.2.fH v1.2.fQ v1.2.fJ)))
   ) else (
    some (.go (v1.1, v1.2))
   )
   : Option (Fl (Tk × Te) (Tk × Te))).bind fun f => flC f fun (v2 : Tk × Te) =>
   some (v2.1, v2.2)
  )
 )

noncomputable def gar (x0 : Tk) (x1 : Te) (x2 : Int) : Option (Tk × Te) :=
 ((gaa x0 x1 x2)).bind fun r1 =>
 ((
  need (NonZ 16) <|
  need (NonZ 4) <|
  bif (ltI 0 (remI (quoI .i64 x2 16) 4)) then (
   ((gal r1.1 1)).bind fun r2 =>
   ((
    need (NonZ 32) <|
    need (NonZ 2) <|
    bif (eqI (remI (quoI .i64 x2 32) 2) 1) then (
     need (NonZ 64) <|
     need (NonZ 32) <|
     need (NonZ 2) <|
     some (.go (Te.mk r1.2.fI r1.2.fz r1.2.fD r1.2.fB r1.2.fR r1.2.fG (cvtI .i64 (quoI .u64 r2.2 64)) (eqI (remI (quoI .u64 r2.2 32) 2) 1) r1.2.fJ))
    ) else (
     some (.go r1.2)
    )
    : Option (Fl Te (Fl (Tk × Te) (Tk × Te)))).bind fun f => flC f fun (v2 : Te) =>
    need (NonZ 16) <|
    need (NonZ 2) <|
    bif (eqI (remI (quoI .i64 x2 16) 2) 1) then (
     need (NonZ 32) <|
     some (.go (r2.1, (Te.mk v2.fI v2.fz v2.fD v2.fB v2.fR v2.fG v2.fH v2.fQ (cvtI .i64 (remI r2.2 32)))))
    ) else (
     some (.go (r2.1, v2))
    )
   )
  ) else (
   some (.go (r1.1, r1.2))
  )
  : Option (Fl (Tk × Te) (Tk × Te))).bind fun f => flC f fun (v1 : Tk × Te) =>
  some (v1.1, v1.2)
 )

noncomputable def gaj (x0 : ByteArray) : Option (Te × ByteArray × Int) :=
 ((gal (Tk.mk x0 0) 1)).bind fun r1 =>
 need (NonZ 32) <|
 need (NonZ 2) <|
 need (NonZ 16) <|
 need (NonZ 2) <|
 need (NonZ 8) <|
 ((
  bif (ltI 127 r1.2) then (
   ((gal r1.1 1)).bind fun r2 =>
   some (.go ((cvtI .i64 r2.2), r2.1))
  ) else (
   some (.go (0, r1.1))
  )
  : Option (Fl (Int × Tk) (Te × ByteArray × Int))).bind fun f => flC f fun (v1 : Int × Tk) =>
  ((gar v1.2 (Te.mk (eqI (remI (quoI .u64 r1.2 32) 2) 1) (eqI (remI (quoI .u64 r1.2 16) 2) 1) (cvtI .i64 (remI r1.2 8)) (-1) false (-1) (-1) false (-1)) v1.1)).bind fun r3 =>
  bif (neI r3.1.fE 0) then (
   some ((Te.mk false false 0 0 false 0 0 false 0), ⟨#[]⟩, r3.1.fE)
  ) else (
   some (r3.2, r3.1.fS, 0)
  )
 )
end Go.Proofs
end
section
namespace Go.Proofs
open Go.Ab
theorem foldl_min : ∀ (l : List Int) (a : Int), (l.foldl min a = a ∨ l.foldl min a ∈ l) ∧ l.foldl min a ≤ a ∧ ∀ x ∈ l, l.foldl min a ≤ x
  | [], a => ⟨.inl rfl, Int.le_refl _, fun _ h => by cases h⟩
  | b :: l, a => by
    obtain ⟨h1, h2, h3⟩ := foldl_min l (min a b)
    refine ⟨?_, ?_, fun x hx => ?_⟩
    · simp only [List.foldl_cons]
      rcases h1 with h1 | h1
      · rw [h1]
        rcases Int.le_total a b with h | h
        · left; omega
        · right; simp; left; omega
      · right; exact .tail _ h1
    · simp only [List.foldl_cons]; omega
    · simp only [List.foldl_cons]
      cases hx with
      | head => omega
      | tail _ hx => exact h3 x hx

theorem minL_mem {l : List Int} (h : l ≠ []) : minL l ∈ l := by
  cases l with
  | nil => exact absurd rfl h
  | cons a l =>
    have := (foldl_min l (min a a)).1
    simp only [minL, List.foldl_cons, List.headD_cons]
    rcases this with h | h
    · rw [h]; simp
    · exact .tail _ h
theorem minL_le {l : List Int} : ∀ x ∈ l, minL l ≤ x := by
  cases l with
  | nil => intro x hx; cases hx
  | cons a l =>
    intro x hx
    have h2 := (foldl_min l (min a a)).2
    simp only [minL, List.foldl_cons, List.headD_cons]
    cases hx with
    | head => have := h2.1; omega
    | tail _ hx => exact h2.2 x hx
theorem minL_of {l : List Int} {m : Int} (h1 : m ∈ l) (h2 : ∀ x ∈ l, m ≤ x) : minL l = m := by
  have hne : l ≠ [] := by rintro rfl; cases h1
  have := minL_le m h1
  have := h2 _ (minL_mem hne)
  omega

theorem min_plain {l : List Int} (h : MinB l) : gk l = some (minL l) := by
  obtain ⟨h0, h1⟩ := h
  have hl : lenL l = (l.length : Int) := rfl
  unfold gk
  rw [ltI_f (by rw [hl]; omega)]
  simp only [cond_false, Ld, flC_go]
  rw [Lk ⟨Int.le_refl 0, by rw [hl]; omega⟩]
  obtain ⟨t, ht, m, rfl, hm⟩ := loop_ends (body := gk.loop2 l)
    (fun s => ∃ i : Nat, s.1 = (i : Int) ∧ 1 ≤ i ∧ i ≤ l.length ∧ s.2 ∈ l ∧ ∀ j : Nat, j < i → s.2 ≤ l.getD j 0) (fun t => ∃ m, t = .go m ∧ minL l = m) (fun s => l.length - s.1.toNat)
    (fun s ⟨i, e1, e2, e3, e4, e5⟩ => by
      obtain ⟨a, b⟩ := s
      simp only at e1 e4 e5
      subst e1
      unfold gk.loop2
      by_cases hi : i < l.length
      · rw [ltI_t (by rw [hl]; omega)]
        simp only [cond_true]
        rw [Lk ⟨by omega, by rw [hl]; omega⟩, addI_n (by omega) (by omega), minI_d]
        have hn : nthI l (i : Int) = l[i] := by simp [nthI, hi]
        refine ⟨⟨i + 1, by simp, by omega, by omega, ?_, fun j hj => ?_⟩, by simp only; omega⟩
        · simp only [hn]
          rcases Int.le_total b l[i] with h | h
          · rw [show min b l[i] = b by omega]; exact e4
          · rw [show min b l[i] = l[i] by omega]; exact List.getElem_mem hi
        · simp only [hn]
          rcases Nat.lt_or_ge j i with h | h
          · have := e5 j h; omega
          · have hji : j = i := by omega
            subst hji
            simp only [List.getD_eq_getElem?_getD, List.getElem?_eq_getElem hi, Option.getD_some]
            omega
      · rw [ltI_f (by rw [hl]; omega)]
        refine ⟨b, rfl, minL_of e4 fun x hx => ?_⟩
        obtain ⟨j, hj, rfl⟩ := List.mem_iff_getElem.1 hx
        have := e5 j (by omega)
        simpa [hj] using this) (1, nthI l 0) ⟨1, rfl, Nat.le_refl _, by omega, by
          have : nthI l 0 = l[0] := by simp [nthI, h0]
          simp only [this]; exact List.getElem_mem _, fun j hj => by
          have hj0 : j = 0 := by omega
          subst hj0
          simp [nthI, h0]⟩
  rw [ht]
  simp only [Ld, flC_go, hm]
end Go.Proofs
end

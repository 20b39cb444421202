/- What these functions compute, as plain functions. No condition. -/
import Derived.Test.YtbijdlgffebenaaTs
import Derived.Test.YtbijdlgffebenaaM08
import Derived.Test.YtbijdlgffebenaaKl
section
namespace Go.Proofs
open Go.Ab
noncomputable def gOctetRead (x0 : ByteArray) : Option OctetReader :=
  some (OctetReader.mk x0 0)

noncomputable def gOctetReaderLen (x0 : OctetReader) : Option Int :=
  some (lenS x0.fS)

noncomputable def gOctetReaderErr (x0 : OctetReader) : Option Int :=
  some x0.fE

noncomputable def gOctetReaderFail (x0 : OctetReader) (x1 : Int) : Option OctetReader :=
  bif (pickB (eqI x0.fE 0) (neI x1 0) false) then (
    some (OctetReader.mk ⟨#[]⟩ x1)
  ) else (
    some x0
  )

noncomputable def gOctetReaderBytes (x0 : OctetReader) (x1 : Int) : Option (ByteArray × OctetReader) :=
  bif (neI x0.fE 0) then (
    some (⟨#[]⟩, x0)
  ) else (
    bif (ltI x1 0) then (
      ((gOctetReaderFail x0 5)).bind fun r1 =>
      some (⟨#[]⟩, r1)
    ) else (
      bif (ltI (lenS x0.fS) x1) then (
        ((gOctetReaderFail x0 1)).bind fun r2 =>
        some (⟨#[]⟩, r2)
      ) else (
        need (CutB 0 x1 (lenS x0.fS)) <|
        need (CutB x1 (lenS x0.fS) (lenS x0.fS)) <|
        some ((cutS x0.fS 0 x1), (OctetReader.mk (cutS x0.fS x1 (lenS x0.fS)) x0.fE))
      )
    )
  )

noncomputable def gOctetReaderNum.loop1 (r1 : ByteArray × OctetReader) (s1 : Int × Int) : Option (Fl (Int × Int) (Fl Int (Int × OctetReader))) :=
  bif (ltI s1.1 (lenL (numsOf r1.1))) then (
    need (InB s1.1 (lenL (numsOf r1.1))) <|
    need (NonN 8) <|
    some (.go ((addI .i64 s1.1 1), (bitsOp .or .u64 (shlI .u64 s1.2 8) (cvtI .u64 (nthI (numsOf r1.1) s1.1)))))
  ) else (
    some (.out (.go s1.2))
  )

noncomputable def gOctetReaderNum (x0 : OctetReader) (x1 : Int) : Option (Int × OctetReader) :=
  ((gOctetReaderBytes x0 (minI (maxI x1 1) 8))).bind fun r1 =>
  ((loopF (gOctetReaderNum.loop1 r1) (0, 0)).bind fun f => flC f fun (v1 : Int) =>
    some (v1, r1.2)
  )

noncomputable def gOctetReaderU8 (x0 : OctetReader) : Option (Int × OctetReader) :=
  ((gOctetReaderNum x0 1)).bind fun r1 =>
  some ((cvtI .u8 r1.1), r1.2)

noncomputable def gOctetReaderRest (x0 : OctetReader) : Option (ByteArray × OctetReader) :=
  ((gOctetReaderLen x0)).bind fun r1 =>
  ((gOctetReaderBytes x0 r1)).bind fun r2 =>
  some (r2.1, r2.2)

noncomputable def gVp8Plain : Option Antiphonref04Desc :=
  some (Antiphonref04Desc.mk false false 0 (-1) false (-1) (-1) false (-1))

noncomputable def gVp8Bit (x0 : Bool) (x1 : Int) : Option Int :=
  bif x0 then (
    some x1
  ) else (
    some 0
  )

noncomputable def gVp8DescMore (x0 : Antiphonref04Desc) : Option Bool :=
  some (pickB (pickB (pickB (leqI 0 x0.fPicture) true (leqI 0 x0.fLevel)) true (leqI 0 x0.fLayer)) true (leqI 0 x0.fKey))

noncomputable def gVp8DescText (x0 : Antiphonref04Desc) : Option ByteArray :=
  ((gVp8DescMore x0)).bind fun r1 =>
  ((gVp8Bit r1 128)).bind fun r2 =>
  ((gVp8Bit x0.fNonRef 32)).bind fun r3 =>
  ((gVp8Bit x0.fStart 16)).bind fun r4 =>
  need (AppB 0 1 1) <|
  bif (notB r1) then (
    need (TextB (appL [] [(bitsOp .or .u8 (bitsOp .or .u8 (bitsOp .or .u8 r2 r3) r4) (cvtI .u8 (bitsOp .and .i64 x0.fPart 7)))])) <|
    some (strOfNums (appL [] [(bitsOp .or .u8 (bitsOp .or .u8 (bitsOp .or .u8 r2 r3) r4) (cvtI .u8 (bitsOp .and .i64 x0.fPart 7)))]))
  ) else (
    ((gVp8Bit (leqI 0 x0.fPicture) 128)).bind fun r5 =>
    ((gVp8Bit (leqI 0 x0.fLevel) 64)).bind fun r6 =>
    ((gVp8Bit (leqI 0 x0.fLayer) 32)).bind fun r7 =>
    ((gVp8Bit (leqI 0 x0.fKey) 16)).bind fun r8 =>
    need (AppB 1 1 1) <|
    ((
      bif (pickB (leqI 0 x0.fPicture) x0.fWide false) then (
        none
      ) else (
        bif (leqI 0 x0.fPicture) then (
          need (AppB 2 1 1) <|
          some (.go (appL (appL (appL [] [(bitsOp .or .u8 (bitsOp .or .u8 (bitsOp .or .u8 r2 r3) r4) (cvtI .u8 (bitsOp .and .i64 x0.fPart 7)))]) [(bitsOp .or .u8 (bitsOp .or .u8 (bitsOp .or .u8 r5 r6) r7) r8)]) [(cvtI .u8 (bitsOp .and .i64 x0.fPicture 127))]))
        ) else (
          some (.go (appL (appL [] [(bitsOp .or .u8 (bitsOp .or .u8 (bitsOp .or .u8 r2 r3) r4) (cvtI .u8 (bitsOp .and .i64 x0.fPart 7)))]) [(bitsOp .or .u8 (bitsOp .or .u8 (bitsOp .or .u8 r5 r6) r7) r8)]))
        )
      )
      : Option (Fl (List Int) ByteArray)).bind fun f => flC f fun (v1 : List Int) =>
      ((
        bif (leqI 0 x0.fLevel) then (
          need (AppB (lenL v1) 1 1) <|
          some (.go (appL v1 [(cvtI .u8 x0.fLevel)]))
        ) else (
          some (.go v1)
        )
        : Option (Fl (List Int) ByteArray)).bind fun f => flC f fun (v2 : List Int) =>
        ((
          bif (pickB (leqI 0 x0.fLayer) true (leqI 0 x0.fKey)) then (
            need (NonN 6) <|
            ((gVp8Bit x0.fSync 32)).bind fun r9 =>
            need (AppB (lenL v2) 1 1) <|
            some (.go (appL v2 [(bitsOp .or .u8 (bitsOp .or .u8 (shlI .u8 (cvtI .u8 (maxI x0.fLayer 0)) 6) r9) (cvtI .u8 (maxI x0.fKey 0)))]))
          ) else (
            some (.go v2)
          )
          : Option (Fl (List Int) ByteArray)).bind fun f => flC f fun (v3 : List Int) =>
          need (TextB v3) <|
          some (strOfNums v3)
        )
      )
    )
  )

noncomputable def gVp8DescPicture (x0 : Antiphonref04Desc) (x1 : OctetReader) : Option (Antiphonref04Desc × OctetReader) :=
  ((gOctetReaderU8 x1)).bind fun r1 =>
  ((
    bif (ltI 127 (cvtI .i64 r1.1)) then (
      need (NonN 8) <|
      ((gOctetReaderU8 r1.2)).bind fun r2 =>
      some (.go ((bitsOp .or .i64 (shlI .i64 (bitsOp .and .i64 (cvtI .i64 r1.1) 127) 8) (cvtI .i64 r2.1)), r2.2, (Antiphonref04Desc.mk x0.fNonRef x0.fStart x0.fPart x0.fPicture true x0.fLevel x0.fLayer x0.fSync x0.fKey)))
    ) else (
      some (.go ((cvtI .i64 r1.1), r1.2, (Antiphonref04Desc.mk x0.fNonRef x0.fStart x0.fPart x0.fPicture false x0.fLevel x0.fLayer x0.fSync x0.fKey)))
    )
    : Option (Fl (Int × OctetReader × Antiphonref04Desc) (Antiphonref04Desc × OctetReader))).bind fun f => flC f fun (v1 : Int × OctetReader × Antiphonref04Desc) =>
    some ((Antiphonref04Desc.mk v1.2.2.fNonRef v1.2.2.fStart v1.2.2.fPart v1.1 v1.2.2.fWide v1.2.2.fLevel v1.2.2.fLayer v1.2.2.fSync v1.2.2.fKey), v1.2.1)
  )

noncomputable def gVp8Parse (x0 : ByteArray) : Option (Antiphonref04Desc × ByteArray × Int) :=
  ((gOctetRead x0)).bind fun r1 =>
  ((gOctetReaderU8 r1)).bind fun r2 =>
  (gVp8Plain).bind fun r3 =>
  ((
    bif (ltI 127 r2.1) then (
      ((gOctetReaderU8 r2.2)).bind fun r4 =>
      some (.go (r4.1, r4.2))
    ) else (
      some (.go (0, r2.2))
    )
    : Option (Fl (Int × OctetReader) (Antiphonref04Desc × ByteArray × Int))).bind fun f => flC f fun (v1 : Int × OctetReader) =>
    ((
      bif (ltI 0 (bitsOp .and .u8 v1.1 128)) then (
        ((gVp8DescPicture (Antiphonref04Desc.mk (ltI 0 (bitsOp .and .u8 r2.1 32)) (ltI 0 (bitsOp .and .u8 r2.1 16)) (cvtI .i64 (bitsOp .and .u8 r2.1 7)) r3.fPicture r3.fWide r3.fLevel r3.fLayer r3.fSync r3.fKey) v1.2)).bind fun r5 =>
        some (.go (r5.2, r5.1))
      ) else (
        some (.go (v1.2, (Antiphonref04Desc.mk (ltI 0 (bitsOp .and .u8 r2.1 32)) (ltI 0 (bitsOp .and .u8 r2.1 16)) (cvtI .i64 (bitsOp .and .u8 r2.1 7)) r3.fPicture r3.fWide r3.fLevel r3.fLayer r3.fSync r3.fKey)))
      )
      : Option (Fl (OctetReader × Antiphonref04Desc) (Antiphonref04Desc × ByteArray × Int))).bind fun f => flC f fun (v2 : OctetReader × Antiphonref04Desc) =>
      ((
        bif (ltI 0 (bitsOp .and .u8 v1.1 64)) then (
          ((gOctetReaderU8 v2.1)).bind fun r6 =>
          some (.go (r6.2, (Antiphonref04Desc.mk v2.2.fNonRef v2.2.fStart v2.2.fPart v2.2.fPicture v2.2.fWide (cvtI .i64 r6.1) v2.2.fLayer v2.2.fSync v2.2.fKey)))
        ) else (
          some (.go (v2.1, v2.2))
        )
        : Option (Fl (OctetReader × Antiphonref04Desc) (Antiphonref04Desc × ByteArray × Int))).bind fun f => flC f fun (v3 : OctetReader × Antiphonref04Desc) =>
        ((
          bif (ltI 0 (bitsOp .and .u8 v1.1 48)) then (
            ((gOctetReaderU8 v3.1)).bind fun r7 =>
            ((
              bif (ltI 0 (bitsOp .and .u8 v1.1 32)) then (
                need (NonN 6) <|
                some (.go (Antiphonref04Desc.mk v3.2.fNonRef v3.2.fStart v3.2.fPart v3.2.fPicture v3.2.fWide v3.2.fLevel (cvtI .i64 (shrI .u8 r7.1 6)) (ltI 0 (bitsOp .and .u8 r7.1 32)) v3.2.fKey))
              ) else (
                some (.go v3.2)
              )
              : Option (Fl Antiphonref04Desc (Fl (OctetReader × Antiphonref04Desc) (Antiphonref04Desc × ByteArray × Int)))).bind fun f => flC f fun (v5 : Antiphonref04Desc) =>
              bif (ltI 0 (bitsOp .and .u8 v1.1 16)) then (
                some (.go (r7.2, (Antiphonref04Desc.mk v5.fNonRef v5.fStart v5.fPart v5.fPicture v5.fWide v5.fLevel v5.fLayer v5.fSync (cvtI .i64 (bitsOp .and .u8 r7.1 31)))))
              ) else (
                some (.go (r7.2, v5))
              )
            )
          ) else (
            some (.go (v3.1, v3.2))
          )
          : Option (Fl (OctetReader × Antiphonref04Desc) (Antiphonref04Desc × ByteArray × Int))).bind fun f => flC f fun (v4 : OctetReader × Antiphonref04Desc) =>
          ((gOctetReaderErr v4.1)).bind fun r8 =>
          bif (neI r8 0) then (
            some ((Antiphonref04Desc.mk false false 0 0 false 0 0 false 0), ⟨#[]⟩, r8)
          ) else (
            ((gOctetReaderRest v4.1)).bind fun r9 =>
            some (v4.2, r9.1, 0)
          )
        )
      )
    )
  )

noncomputable def gVp8Keyframe (x0 : Antiphonref04Desc) (x1 : ByteArray) : Option Bool :=
  need (Under (pickB (pickB x0.fStart (eqI x0.fPart 0) false) (neS x1 ⟨#[]⟩) false) true (InB 0 (lenS x1))) <|
  some (pickB (pickB (pickB x0.fStart (eqI x0.fPart 0) false) (neS x1 ⟨#[]⟩) false) (eqI (bitsOp .and .u8 (idxS x1 0) 1) 0) false)
end Go.Proofs
end
section
namespace Go.Proofs
open Go.Ab
theorem foldl_min : ∀ (l : List Int) (a : Int), (l.foldl min a = a ∨ l.foldl min a ∈ l) ∧ l.foldl min a ≤ a ∧ ∀ x ∈ l, l.foldl min a ≤ x
  | [], a => ⟨.inl rfl, Int.le_refl _, fun _ h => by cases h⟩
  | b :: l, a => by
    obtain ⟨h1, h2, h3⟩ := foldl_min l (min a b)
    refine ⟨?_, ?_, fun x hx => ?_⟩
    · simp only [List.foldl_cons]
      rcases h1 with h1 | h1
      · rw [h1]
        rcases Int.le_total a b with h | h
        · left; omega
        · right; simp; left; omega
      · right; exact .tail _ h1
    · simp only [List.foldl_cons]; omega
    · simp only [List.foldl_cons]
      cases hx with
      | head => omega
      | tail _ hx => exact h3 x hx

theorem minL_mem {l : List Int} (h : l ≠ []) : minL l ∈ l := by
  cases l with
  | nil => exact absurd rfl h
  | cons a l =>
    have := (foldl_min l (min a a)).1
    simp only [minL, List.foldl_cons, List.headD_cons]
    rcases this with h | h
    · rw [h]; simp
    · exact .tail _ h
theorem minL_le {l : List Int} : ∀ x ∈ l, minL l ≤ x := by
  cases l with
  | nil => intro x hx; cases hx
  | cons a l =>
    intro x hx
    have h2 := (foldl_min l (min a a)).2
    simp only [minL, List.foldl_cons, List.headD_cons]
    cases hx with
    | head => have := h2.1; omega
    | tail _ hx => exact h2.2 x hx
theorem minL_of {l : List Int} {m : Int} (h1 : m ∈ l) (h2 : ∀ x ∈ l, m ≤ x) : minL l = m := by
  have hne : l ≠ [] := by rintro rfl; cases h1
  have := minL_le m h1
  have := h2 _ (minL_mem hne)
  omega

theorem min_plain {l : List Int} (h : MinB l) : gSlicesMinInt64Int64 l = some (minL l) := by
  obtain ⟨h0, h1⟩ := h
  have hl : lenL l = (l.length : Int) := rfl
  unfold gSlicesMinInt64Int64
  rw [ltI_f (by rw [hl]; omega)]
  simp only [cond_false, bind_so, flC_go]
  rw [need_t ⟨Int.le_refl 0, by rw [hl]; omega⟩]
  obtain ⟨t, ht, m, rfl, hm⟩ := loop_ends (body := gSlicesMinInt64Int64.loop2 l)
    (fun s => ∃ i : Nat, s.1 = (i : Int) ∧ 1 ≤ i ∧ i ≤ l.length ∧ s.2 ∈ l ∧ ∀ j : Nat, j < i → s.2 ≤ l.getD j 0) (fun t => ∃ m, t = .go m ∧ minL l = m) (fun s => l.length - s.1.toNat)
    (fun s ⟨i, e1, e2, e3, e4, e5⟩ => by
      obtain ⟨a, b⟩ := s
      simp only at e1 e4 e5
      subst e1
      unfold gSlicesMinInt64Int64.loop2
      by_cases hi : i < l.length
      · rw [ltI_t (by rw [hl]; omega)]
        simp only [cond_true]
        rw [need_t ⟨by omega, by rw [hl]; omega⟩, addI_n (by omega) (by omega), minI_d]
        have hn : nthI l (i : Int) = l[i] := by simp [nthI, hi]
        refine ⟨⟨i + 1, by simp, by omega, by omega, ?_, fun j hj => ?_⟩, by simp only; omega⟩
        · simp only [hn]
          rcases Int.le_total b l[i] with h | h
          · rw [show min b l[i] = b by omega]; exact e4
          · rw [show min b l[i] = l[i] by omega]; exact List.getElem_mem hi
        · simp only [hn]
          rcases Nat.lt_or_ge j i with h | h
          · have := e5 j h; omega
          · have hji : j = i := by omega
            subst hji
            simp only [List.getD_eq_getElem?_getD, List.getElem?_eq_getElem hi, Option.getD_some]
            omega
      · rw [ltI_f (by rw [hl]; omega)]
        refine ⟨b, rfl, minL_of e4 fun x hx => ?_⟩
        obtain ⟨j, hj, rfl⟩ := List.mem_iff_getElem.1 hx
        have := e5 j (by omega)
        simpa [hj] using this) (1, nthI l 0) ⟨1, rfl, Nat.le_refl _, by omega, by
          have : nthI l 0 = l[0] := by simp [nthI, h0]
          simp only [this]; exact List.getElem_mem _, fun j hj => by
          have hj0 : j = 0 := by omega
          subst hj0
          simp [nthI, h0]⟩
  rw [ht]
  simp only [bind_so, flC_go, hm]
end Go.Proofs
end
section
namespace Go.Proofs
open Go.Ab
variable {V : Type}

theorem hasM_iff {k : Int} : ∀ {m : List (Int × V)}, hasM eqI k m = true ↔ k ∈ keysM m
  | [] => by simp [hasM, keysM]
  | e :: r => by
    have ih := hasM_iff (k := k) (m := r)
    simp only [hasM, keysM, List.map_cons, List.mem_cons]
    by_cases h : k = e.1
    · rw [eqI_t h]; simp [pickB, h]
    · rw [eqI_f h]; simp only [pickB, cond_false, h, false_or]; exact ih
theorem hasM_t {k : Int} {m : List (Int × V)} (h : k ∈ keysM m) : hasM eqI k m = true := hasM_iff.2 h
theorem hasM_f {k : Int} {m : List (Int × V)} (h : k ∉ keysM m) : hasM eqI k m = false := by
  cases hh : hasM eqI k m with
  | false => rfl
  | true => exact absurd (hasM_iff.1 hh) h

theorem getM_of {k : Int} {v z : V} : ∀ {m : List (Int × V)}, (keysM m).Nodup → (k, v) ∈ m → getM eqI k z m = v
  | e :: r, hn, h => by
    simp only [keysM, List.map_cons, List.nodup_cons] at hn
    simp only [getM]
    cases h with
    | head => rw [eqI_t rfl]; rfl
    | tail _ h =>
      have hne : k ≠ e.1 := fun q => hn.1 (List.mem_map.2 ⟨(k, v), h, q⟩)
      rw [eqI_f hne]
      simp only [Bool.false_eq_true, if_false]
      exact getM_of hn.2 h
theorem getM_no {k : Int} {z : V} : ∀ {m : List (Int × V)}, k ∉ keysM m → getM eqI k z m = z
  | [], _ => rfl
  | e :: r, h => by
    simp only [keysM, List.map_cons, List.mem_cons, not_or] at h
    simp only [getM, eqI_f h.1, Bool.false_eq_true, if_false]
    exact getM_no h.2

theorem setM_no {k : Int} {v : V} : ∀ {m : List (Int × V)}, k ∉ keysM m → setM eqI k v m = m ++ [(k, v)]
  | [], _ => rfl
  | e :: r, h => by
    simp only [keysM, List.map_cons, List.mem_cons, not_or] at h
    simp only [setM, eqI_f h.1, Bool.false_eq_true, if_false, List.cons_append]
    rw [setM_no h.2]

theorem delM_no {k : Int} : ∀ {m : List (Int × V)}, k ∉ keysM m → delM eqI k m = m
  | [], _ => rfl
  | e :: r, h => by
    simp only [keysM, List.map_cons, List.mem_cons, not_or] at h
    simp only [delM, eqI_f h.1, Bool.false_eq_true, if_false]
    rw [delM_no h.2]
theorem delM_perm {k : Int} {v : V} : ∀ {m : List (Int × V)}, (keysM m).Nodup → (k, v) ∈ m → m.Perm ((k, v) :: delM eqI k m)
  | e :: r, hn, h => by
    simp only [keysM, List.map_cons, List.nodup_cons] at hn
    simp only [delM]
    cases h with
    | head => rw [eqI_t rfl]; exact List.Perm.refl _
    | tail _ h =>
      have hne : k ≠ e.1 := fun q => hn.1 (List.mem_map.2 ⟨(k, v), h, q⟩)
      rw [eqI_f hne]
      simp only [Bool.false_eq_true, if_false]
      exact ((delM_perm hn.2 h).cons e).trans (List.Perm.swap _ _ _)
theorem delM_of {k : Int} {v : V} {m r : List (Int × V)} (hn : (keysM m).Nodup) (hp : m.Perm ((k, v) :: r)) : (delM eqI k m).Perm r :=
  ((delM_perm hn (hp.mem_iff.2 (.head _))).symm.trans hp).cons_inv
theorem keysM_perm {m m' : List (Int × V)} (h : m.Perm m') : (keysM m).Perm (keysM m') := h.map _
theorem lenL_perm {α : Type} {l l' : List α} (h : l.Perm l') : lenL l = lenL l' := by simp [lenL, h.length_eq]
theorem sortL_of {l l' : List Int} (h : l.Perm l') (hs : l'.Pairwise (· ≤ ·)) : sortL l = l' := by
  unfold sortL
  refine List.Perm.eq_of_pairwise (le := fun a b => a ≤ b) (fun a b _ _ h1 h2 => Int.le_antisymm h1 h2) ?_ hs ((List.mergeSort_perm l _).trans h)
  have := List.pairwise_mergeSort (le := fun x y : Int => decide (x ≤ y)) (fun a b c h1 h2 => by simp only [decide_eq_true_eq] at *; omega) (fun a b => by simp only [Bool.or_eq_true, decide_eq_true_eq]; omega) l
  exact this.imp fun h => by simpa using h
theorem KeysB_of {l : List Int} (h : ∀ x ∈ l, -9223372036854775808 ≤ x ∧ x ≤ 9223372036854775807) (hl : l.length ≤ 1000000000000) : KeysB l :=
  ⟨fun x hx => by
    obtain ⟨h1, h2⟩ := h x hx
    simp only [Lit.wf, Bool.and_eq_true, decide_eq_true_eq]
    exact ⟨h1, h2⟩, by omega⟩
end Go.Proofs
end

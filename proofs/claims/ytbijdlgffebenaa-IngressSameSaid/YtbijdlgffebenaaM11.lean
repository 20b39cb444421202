/- What these functions compute, as plain functions. No condition. -/
import Derived.Test.YtbijdlgffebenaaTs
import Derived.Test.YtbijdlgffebenaaM01
import Derived.Test.YtbijdlgffebenaaM04
import Derived.Test.YtbijdlgffebenaaOxD
import Derived.Test.YtbijdlgffebenaaKl
section
namespace Go.Proofs
open Go.Ab
noncomputable def gSerialHalfUint16 : Option Int :=
  need (NonN 1) <|
  some (addI .u16 (shrI .u16 (subI .u16 0 1) 1) 1)

noncomputable def gSerialHalfUint32 : Option Int :=
  need (NonN 1) <|
  some (addI .u32 (shrI .u32 (subI .u32 0 1) 1) 1)

noncomputable def gSerialDistUint16 (x0 : Int) (x1 : Int) : Option Int :=
  (gSerialHalfUint16).bind fun r1 =>
  bif (ltI (subI .u16 x0 x1) r1) then (
    some (cvtI .i64 (subI .u16 x0 x1))
  ) else (
    some (negI .i64 (cvtI .i64 (subI .u16 x1 x0)))
  )

noncomputable def gSerialDistUint32 (x0 : Int) (x1 : Int) : Option Int :=
  (gSerialHalfUint32).bind fun r1 =>
  bif (ltI (subI .u32 x0 x1) r1) then (
    some (cvtI .i64 (subI .u32 x0 x1))
  ) else (
    some (negI .i64 (cvtI .i64 (subI .u32 x1 x0)))
  )

noncomputable def gSerialNearUint16 (x0 : Int) (x1 : Int) : Option Int :=
  ((gSerialDistUint16 x1 (cvtI .u16 x0))).bind fun r1 =>
  some (addI .i64 x0 r1)

noncomputable def gSerialNearUint32 (x0 : Int) (x1 : Int) : Option Int :=
  ((gSerialDistUint32 x1 (cvtI .u32 x0))).bind fun r1 =>
  some (addI .i64 x0 r1)

noncomputable def gExtendSeqRestartInIngressSource2 (x0 : IngressSource) (x1 : Int) : Option (Int × IngressSource) :=
  need (NonN 16) <|
  need (NonN 16) <|
  some ((bitsOp .or .i64 (shlI .i64 (addI .i64 (shrI .i64 x0.fSeq.fMost 16) 2) 16) (cvtI .i64 x1)), (IngressSource.mk x0.fBuffer x0.fMaker (ExtendSeq.mk x0.fSeq.fBegun (bitsOp .or .i64 (shlI .i64 (addI .i64 (shrI .i64 x0.fSeq.fMost 16) 2) 16) (cvtI .i64 x1)) x0.fSeq.fOdd 0 (addI .i64 x0.fSeq.fJumps 1)) x0.fClock x0.fOf x0.fBad x0.fKeys))

noncomputable def gExtendSeqPutInIngressSource2 (x0 : IngressSource) (x1 : Int) : Option (Int × Bool × IngressSource) :=
  bif (notB x0.fSeq.fBegun) then (
    some ((addI .i64 1048576 (cvtI .i64 x1)), true, (IngressSource.mk x0.fBuffer x0.fMaker (ExtendSeq.mk true (addI .i64 1048576 (cvtI .i64 x1)) x0.fSeq.fOdd x0.fSeq.fRun x0.fSeq.fJumps) x0.fClock x0.fOf x0.fBad x0.fKeys))
  ) else (
    ((gSerialNearUint16 x0.fSeq.fMost x1)).bind fun r1 =>
    bif (pickB (leqI (subI .i64 r1 x0.fSeq.fMost) 3000) (leqI (-3000) (subI .i64 r1 x0.fSeq.fMost)) false) then (
      some (r1, true, (IngressSource.mk x0.fBuffer x0.fMaker (ExtendSeq.mk x0.fSeq.fBegun (maxI x0.fSeq.fMost r1) x0.fSeq.fOdd 0 x0.fSeq.fJumps) x0.fClock x0.fOf x0.fBad x0.fKeys))
    ) else (
      ((
        bif (pickB (ltI 0 x0.fSeq.fRun) (eqI x1 x0.fSeq.fOdd) false) then (
          some (.go (ExtendSeq.mk x0.fSeq.fBegun x0.fSeq.fMost x0.fSeq.fOdd (addI .i64 x0.fSeq.fRun 1) x0.fSeq.fJumps))
        ) else (
          some (.go (ExtendSeq.mk x0.fSeq.fBegun x0.fSeq.fMost x0.fSeq.fOdd 1 x0.fSeq.fJumps))
        )
        : Option (Fl ExtendSeq (Int × Bool × IngressSource))).bind fun f => flC f fun (v1 : ExtendSeq) =>
        bif (leqI 2 v1.fRun) then (
          ((gExtendSeqRestartInIngressSource2 (IngressSource.mk x0.fBuffer x0.fMaker (ExtendSeq.mk v1.fBegun v1.fMost (addI .u16 x1 1) v1.fRun v1.fJumps) x0.fClock x0.fOf x0.fBad x0.fKeys) x1)).bind fun r2 =>
          some (r2.1, true, r2.2)
        ) else (
          some (0, false, (IngressSource.mk x0.fBuffer x0.fMaker (ExtendSeq.mk v1.fBegun v1.fMost (addI .u16 x1 1) v1.fRun v1.fJumps) x0.fClock x0.fOf x0.fBad x0.fKeys))
        )
      )
    )
  )

noncomputable def gExtendClockPutInIngressSource7 (x0 : IngressSource) (x1 : Int) : Option (Int × IngressSource) :=
  bif (notB x0.fClock.fBegun) then (
    some ((addI .i64 68719476736 (cvtI .i64 x1)), (IngressSource.mk x0.fBuffer x0.fMaker x0.fSeq (ExtendClock.mk true (addI .i64 68719476736 (cvtI .i64 x1))) x0.fOf x0.fBad x0.fKeys))
  ) else (
    ((gSerialNearUint32 x0.fClock.fLast x1)).bind fun r1 =>
    some (r1, (IngressSource.mk x0.fBuffer x0.fMaker x0.fSeq (ExtendClock.mk x0.fClock.fBegun (maxI x0.fClock.fLast r1)) x0.fOf x0.fBad x0.fKeys))
  )
end Go.Proofs
end
section
namespace Go.Proofs
open Go.Ab
noncomputable def gSlicesClipUint16Uint16 (x0 : List Int) : Option (List Int) :=
  need (CutB 0 (lenL x0) (lenL x0)) <|
  some (cutL x0 0 (lenL x0))

noncomputable def gIngressConfigCheck (x0 : IngressConfig) : Option Int :=
  ((gReorderConfigCheck x0.fOrder)).bind fun r1 =>
  bif (neI r1 0) then (
    some r1
  ) else (
    ((gFrameConfigCheck x0.fFrame)).bind fun r2 =>
    some r2
  )

noncomputable def gIngressNew (x0 : IngressConfig) : Option (Option IngressSource × Int) :=
  ((gReorderNew x0.fOrder)).bind fun r1 =>
  optC r1.1 (
    bif (neI r1.2 0) then (
      some (none, r1.2)
    ) else (
      ((gFrameNew x0.fFrame)).bind fun r2 =>
      optC r2.1 (
        bif (neI r2.2 0) then (
          some (none, r2.2)
        ) else (
          none
        )
      ) fun _o2 => (
        bif (neI r2.2 0) then (
          some (none, r2.2)
        ) else (
          none
        )
      )
    )
  ) fun o1 => (
    bif (neI r1.2 0) then (
      some (none, r1.2)
    ) else (
      ((gFrameNew x0.fFrame)).bind fun r2 =>
      optC r2.1 (
        bif (neI r2.2 0) then (
          some (none, r2.2)
        ) else (
          none
        )
      ) fun o2 => (
        bif (neI r2.2 0) then (
          some (none, r2.2)
        ) else (
          some ((some (IngressSource.mk o1 o2 (ExtendSeq.mk false 0 0 0 0) (ExtendClock.mk false 0) [] 0 0)), 0)
        )
      )
    )
  )

noncomputable def gIngressSourceBad (x0 : IngressSource) : Option Int :=
  some x0.fBad

noncomputable def gIngressSourceUnit (x0 : IngressSource) (x1 : Antiphonref09Thing) : Option (Antiphonref10Unit × IngressSource) :=
  ((gExtendClockPutInIngressSource7 (IngressSource.mk x0.fBuffer x0.fMaker x0.fSeq x0.fClock (delM eqI x1.fAt x0.fOf) x0.fBad x0.fKeys) ((getM eqI x1.fAt (Antiphonref03Packet.mk false 0 0 0 0 [] false 0 ⟨⟨[]⟩⟩ ⟨⟨[]⟩⟩ 0) x0.fOf).fTime))).bind fun r1 =>
  ((
    ((gVp8Parse ((getM eqI x1.fAt (Antiphonref03Packet.mk false 0 0 0 0 [] false 0 ⟨⟨[]⟩⟩ ⟨⟨[]⟩⟩ 0) x0.fOf).fPayload))).bind fun r2 =>
    bif (pickB r1.2.fMaker.fConfig.fVideo (eqI r2.2.2 0) false) then (
      ((gVp8Keyframe r2.1 r2.2.1)).bind fun r3 =>
      some (.go (Antiphonref10Unit.mk x1.fAt r1.1 ((getM eqI x1.fAt (Antiphonref03Packet.mk false 0 0 0 0 [] false 0 ⟨⟨[]⟩⟩ ⟨⟨[]⟩⟩ 0) x0.fOf).fMarker) (pickB r2.1.fStart (eqI r2.1.fPart 0) false) r3 ((getM eqI x1.fAt (Antiphonref03Packet.mk false 0 0 0 0 [] false 0 ⟨⟨[]⟩⟩ ⟨⟨[]⟩⟩ 0) x0.fOf).fPayload) x1.fTick))
    ) else (
      some (.go (Antiphonref10Unit.mk x1.fAt r1.1 ((getM eqI x1.fAt (Antiphonref03Packet.mk false 0 0 0 0 [] false 0 ⟨⟨[]⟩⟩ ⟨⟨[]⟩⟩ 0) x0.fOf).fMarker) false false ((getM eqI x1.fAt (Antiphonref03Packet.mk false 0 0 0 0 [] false 0 ⟨⟨[]⟩⟩ ⟨⟨[]⟩⟩ 0) x0.fOf).fPayload) x1.fTick))
    )
    : Option (Fl Antiphonref10Unit (Antiphonref10Unit × IngressSource))).bind fun f => flC f fun (v1 : Antiphonref10Unit) =>
    some (v1, r1.2)
  )

noncomputable def gIngressSourceFrames.loop1 (x1 : List Antiphonref09Thing) (s1 : Int × ExtendSeq × ExtendClock × Int × Int × ReorderConfig × Bool × Int × Int × (List (Int × Antiphonref09Thing)) × FrameMaker × (List (Int × Antiphonref03Packet)) × List FrameFrame) : Option (Fl (Int × ExtendSeq × ExtendClock × Int × Int × ReorderConfig × Bool × Int × Int × (List (Int × Antiphonref09Thing)) × FrameMaker × (List (Int × Antiphonref03Packet)) × List FrameFrame) (Fl (List FrameFrame × ExtendSeq × ExtendClock × Int × Int × ReorderConfig × Bool × Int × Int × (List (Int × Antiphonref09Thing)) × FrameMaker × (List (Int × Antiphonref03Packet))) (List FrameFrame × IngressSource))) :=
  bif (ltI s1.1 (lenL x1)) then (
    need (InB s1.1 (lenL x1)) <|
    ((gIngressSourceUnit (IngressSource.mk (ReorderBuffer.mk s1.2.2.2.2.2.1 s1.2.2.2.2.2.2.1 s1.2.2.2.2.2.2.2.1 s1.2.2.2.2.2.2.2.2.2.1 s1.2.2.2.2.2.2.2.2.1) s1.2.2.2.2.2.2.2.2.2.2.1 s1.2.1 s1.2.2.1 s1.2.2.2.2.2.2.2.2.2.2.2.1 s1.2.2.2.1 s1.2.2.2.2.1) (nthI x1 s1.1))).bind fun r1 =>
    ((gFrameMakerPut r1.2.fMaker r1.1)).bind fun r2 =>
    bif (notB r2.2.1) then (
      some (.go ((addI .i64 s1.1 1), r1.2.fSeq, r1.2.fClock, r1.2.fBad, r1.2.fKeys, r1.2.fBuffer.fConfig, r1.2.fBuffer.fBegun, r1.2.fBuffer.fNext, r1.2.fBuffer.fLost, r1.2.fBuffer.fOf, r2.2.2, r1.2.fOf, s1.2.2.2.2.2.2.2.2.2.2.2.2))
    ) else (
      ((
        ((gFrameFrameKey r2.1)).bind fun r3 =>
        bif r3 then (
          some (.go (addI .i64 r1.2.fKeys 1))
        ) else (
          some (.go r1.2.fKeys)
        )
        : Option (Fl Int (Fl (Int × ExtendSeq × ExtendClock × Int × Int × ReorderConfig × Bool × Int × Int × (List (Int × Antiphonref09Thing)) × FrameMaker × (List (Int × Antiphonref03Packet)) × List FrameFrame) (Fl (List FrameFrame × ExtendSeq × ExtendClock × Int × Int × ReorderConfig × Bool × Int × Int × (List (Int × Antiphonref09Thing)) × FrameMaker × (List (Int × Antiphonref03Packet))) (List FrameFrame × IngressSource))))).bind fun f => flC f fun (v2 : Int) =>
        need (AppB (lenL s1.2.2.2.2.2.2.2.2.2.2.2.2) 1 24) <|
        some (.go ((addI .i64 s1.1 1), r1.2.fSeq, r1.2.fClock, r1.2.fBad, v2, r1.2.fBuffer.fConfig, r1.2.fBuffer.fBegun, r1.2.fBuffer.fNext, r1.2.fBuffer.fLost, r1.2.fBuffer.fOf, r2.2.2, r1.2.fOf, (appL s1.2.2.2.2.2.2.2.2.2.2.2.2 [r2.1])))
      )
    )
  ) else (
    some (.out (.go (s1.2.2.2.2.2.2.2.2.2.2.2.2, s1.2.1, s1.2.2.1, s1.2.2.2.1, s1.2.2.2.2.1, s1.2.2.2.2.2.1, s1.2.2.2.2.2.2.1, s1.2.2.2.2.2.2.2.1, s1.2.2.2.2.2.2.2.2.1, s1.2.2.2.2.2.2.2.2.2.1, s1.2.2.2.2.2.2.2.2.2.2.1, s1.2.2.2.2.2.2.2.2.2.2.2.1)))
  )

noncomputable def gIngressSourceFrames (x0 : IngressSource) (x1 : List Antiphonref09Thing) : Option (List FrameFrame × IngressSource) :=
  ((loopF (gIngressSourceFrames.loop1 x1) (0, x0.fSeq, x0.fClock, x0.fBad, x0.fKeys, x0.fBuffer.fConfig, x0.fBuffer.fBegun, x0.fBuffer.fNext, x0.fBuffer.fLost, x0.fBuffer.fOf, x0.fMaker, x0.fOf, [])).bind fun f => flC f fun (v1 : List FrameFrame × ExtendSeq × ExtendClock × Int × Int × ReorderConfig × Bool × Int × Int × (List (Int × Antiphonref09Thing)) × FrameMaker × (List (Int × Antiphonref03Packet))) =>
    some (v1.1, (IngressSource.mk (ReorderBuffer.mk v1.2.2.2.2.2.1 v1.2.2.2.2.2.2.1 v1.2.2.2.2.2.2.2.1 v1.2.2.2.2.2.2.2.2.2.1 v1.2.2.2.2.2.2.2.2.1) v1.2.2.2.2.2.2.2.2.2.2.1 v1.2.1 v1.2.2.1 v1.2.2.2.2.2.2.2.2.2.2.2 v1.2.2.2.1 v1.2.2.2.2.1))
  )

noncomputable def gIngressSourcePut (x0 : IngressSource) (x1 : Antiphonref03Packet) (x2 : Int) : Option (List FrameFrame × Int × IngressSource) :=
  ((gExtendSeqPutInIngressSource2 x0 x1.fSeq)).bind fun r1 =>
  bif (notB r1.2.1) then (
    some ([], 13, (IngressSource.mk r1.2.2.fBuffer r1.2.2.fMaker r1.2.2.fSeq r1.2.2.fClock r1.2.2.fOf (addI .i64 r1.2.2.fBad 1) r1.2.2.fKeys))
  ) else (
    ((
      bif (eqS x1.fPayload ⟨#[]⟩) then (
        some (.go (Antiphonref03Packet.mk false x1.fType x1.fSeq x1.fTime x1.fSsrc x1.fCsrcs x1.fExt x1.fProfile x1.fData x1.fPayload x1.fPadding))
      ) else (
        some (.go x1)
      )
      : Option (Fl Antiphonref03Packet (List FrameFrame × Int × IngressSource))).bind fun f => flC f fun (v1 : Antiphonref03Packet) =>
      ((
        bif (notB (hasM eqI r1.1 r1.2.2.fOf)) then (
          some (.go (setM eqI r1.1 v1 r1.2.2.fOf))
        ) else (
          some (.go r1.2.2.fOf)
        )
        : Option (Fl (List (Int × Antiphonref03Packet)) (List FrameFrame × Int × IngressSource))).bind fun f => flC f fun (v2 : (List (Int × Antiphonref03Packet))) =>
        ((gReorderBufferPut r1.2.2.fBuffer (Antiphonref09Thing.mk r1.1 ⟨#[]⟩ x2))).bind fun r2 =>
        bif (neI r2.2.1 0) then (
          ((
            bif (eqI r2.2.1 13) then (
              some (.go (delM eqI r1.1 v2))
            ) else (
              some (.go v2)
            )
            : Option (Fl (List (Int × Antiphonref03Packet)) (List FrameFrame × Int × IngressSource))).bind fun f => flC f fun (v3 : (List (Int × Antiphonref03Packet))) =>
            some ([], r2.2.1, (IngressSource.mk r2.2.2 r1.2.2.fMaker r1.2.2.fSeq r1.2.2.fClock v3 (addI .i64 r1.2.2.fBad 1) r1.2.2.fKeys))
          )
        ) else (
          ((gIngressSourceFrames (IngressSource.mk r2.2.2 r1.2.2.fMaker r1.2.2.fSeq r1.2.2.fClock v2 r1.2.2.fBad r1.2.2.fKeys) r2.1)).bind fun r3 =>
          some (r3.1, 0, r3.2)
        )
      )
    )
  )

noncomputable def gIngressSourceNacks.loop1 (r1 : List Int) (s1 : Int × List Int) : Option (Fl (Int × List Int) (Fl (List Int) (List Int))) :=
  bif (ltI s1.1 (lenL r1)) then (
    need (InB s1.1 (lenL r1)) <|
    need (AppB (lenL s1.2) 1 2) <|
    some (.go ((addI .i64 s1.1 1), (appL s1.2 [(cvtI .u16 (nthI r1 s1.1))])))
  ) else (
    some (.out (.go s1.2))
  )

noncomputable def gIngressSourceNacks (x0 : IngressSource) (x1 : Int) : Option (List Int) :=
  ((gReorderBufferMissing x0.fBuffer x1)).bind fun r1 =>
  ((loopF (gIngressSourceNacks.loop1 r1) (0, [])).bind fun f => flC f fun (v1 : List Int) =>
    ((gSlicesClipUint16Uint16 v1)).bind fun r2 =>
    some r2
  )
end Go.Proofs
end
section
namespace Go.Proofs
open Go.Ab
theorem foldl_min : ∀ (l : List Int) (a : Int), (l.foldl min a = a ∨ l.foldl min a ∈ l) ∧ l.foldl min a ≤ a ∧ ∀ x ∈ l, l.foldl min a ≤ x
  | [], a => ⟨.inl rfl, Int.le_refl _, fun _ h => by cases h⟩
  | b :: l, a => by
    obtain ⟨h1, h2, h3⟩ := foldl_min l (min a b)
    refine ⟨?_, ?_, fun x hx => ?_⟩
    · simp only [List.foldl_cons]
      rcases h1 with h1 | h1
      · rw [h1]
        rcases Int.le_total a b with h | h
        · left; omega
        · right; simp; left; omega
      · right; exact .tail _ h1
    · simp only [List.foldl_cons]; omega
    · simp only [List.foldl_cons]
      cases hx with
      | head => omega
      | tail _ hx => exact h3 x hx

theorem minL_mem {l : List Int} (h : l ≠ []) : minL l ∈ l := by
  cases l with
  | nil => exact absurd rfl h
  | cons a l =>
    have := (foldl_min l (min a a)).1
    simp only [minL, List.foldl_cons, List.headD_cons]
    rcases this with h | h
    · rw [h]; simp
    · exact .tail _ h
theorem minL_le {l : List Int} : ∀ x ∈ l, minL l ≤ x := by
  cases l with
  | nil => intro x hx; cases hx
  | cons a l =>
    intro x hx
    have h2 := (foldl_min l (min a a)).2
    simp only [minL, List.foldl_cons, List.headD_cons]
    cases hx with
    | head => have := h2.1; omega
    | tail _ hx => exact h2.2 x hx
theorem minL_of {l : List Int} {m : Int} (h1 : m ∈ l) (h2 : ∀ x ∈ l, m ≤ x) : minL l = m := by
  have hne : l ≠ [] := by rintro rfl; cases h1
  have := minL_le m h1
  have := h2 _ (minL_mem hne)
  omega

theorem min_plain {l : List Int} (h : MinB l) : gSlicesMinInt64Int64 l = some (minL l) := by
  obtain ⟨h0, h1⟩ := h
  have hl : lenL l = (l.length : Int) := rfl
  unfold gSlicesMinInt64Int64
  rw [ltI_f (by rw [hl]; omega)]
  simp only [cond_false, bind_so, flC_go]
  rw [need_t ⟨Int.le_refl 0, by rw [hl]; omega⟩]
  obtain ⟨t, ht, m, rfl, hm⟩ := loop_ends (body := gSlicesMinInt64Int64.loop2 l)
    (fun s => ∃ i : Nat, s.1 = (i : Int) ∧ 1 ≤ i ∧ i ≤ l.length ∧ s.2 ∈ l ∧ ∀ j : Nat, j < i → s.2 ≤ l.getD j 0) (fun t => ∃ m, t = .go m ∧ minL l = m) (fun s => l.length - s.1.toNat)
    (fun s ⟨i, e1, e2, e3, e4, e5⟩ => by
      obtain ⟨a, b⟩ := s
      simp only at e1 e4 e5
      subst e1
      unfold gSlicesMinInt64Int64.loop2
      by_cases hi : i < l.length
      · rw [ltI_t (by rw [hl]; omega)]
        simp only [cond_true]
        rw [need_t ⟨by omega, by rw [hl]; omega⟩, addI_n (by omega) (by omega), minI_d]
        have hn : nthI l (i : Int) = l[i] := by simp [nthI, hi]
        refine ⟨⟨i + 1, by simp, by omega, by omega, ?_, fun j hj => ?_⟩, by simp only; omega⟩
        · simp only [hn]
          rcases Int.le_total b l[i] with h | h
          · rw [show min b l[i] = b by omega]; exact e4
          · rw [show min b l[i] = l[i] by omega]; exact List.getElem_mem hi
        · simp only [hn]
          rcases Nat.lt_or_ge j i with h | h
          · have := e5 j h; omega
          · have hji : j = i := by omega
            subst hji
            simp only [List.getD_eq_getElem?_getD, List.getElem?_eq_getElem hi, Option.getD_some]
            omega
      · rw [ltI_f (by rw [hl]; omega)]
        refine ⟨b, rfl, minL_of e4 fun x hx => ?_⟩
        obtain ⟨j, hj, rfl⟩ := List.mem_iff_getElem.1 hx
        have := e5 j (by omega)
        simpa [hj] using this) (1, nthI l 0) ⟨1, rfl, Nat.le_refl _, by omega, by
          have : nthI l 0 = l[0] := by simp [nthI, h0]
          simp only [this]; exact List.getElem_mem _, fun j hj => by
          have hj0 : j = 0 := by omega
          subst hj0
          simp [nthI, h0]⟩
  rw [ht]
  simp only [bind_so, flC_go, hm]
end Go.Proofs
end

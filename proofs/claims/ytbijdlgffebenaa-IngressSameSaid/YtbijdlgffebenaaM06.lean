/- What these functions compute, as plain functions. No condition. -/
import Derived.Test.YtbijdlgffebenaaTs
import Derived.Test.YtbijdlgffebenaaM04
import Derived.Test.YtbijdlgffebenaaM01
import Derived.Test.YtbijdlgffebenaaM08
import Derived.Test.YtbijdlgffebenaaM12
import Derived.Test.YtbijdlgffebenaaJe
section
namespace Go.Proofs
open Go.Ab
noncomputable def gLaw11IngressSame.loop1 (x2 : List Int) (r3 : List Antiphonref03Packet) (s1 : Int × (List (Int × Antiphonref09Thing)) × ReorderConfig × Bool × Int × Int × FrameMaker × (List (Int × Antiphonref03Packet)) × ExtendSeq × ExtendClock × Int × Int × List FrameFrame) : Option (Fl (Int × (List (Int × Antiphonref09Thing)) × ReorderConfig × Bool × Int × Int × FrameMaker × (List (Int × Antiphonref03Packet)) × ExtendSeq × ExtendClock × Int × Int × List FrameFrame) (Fl ((List (Int × Antiphonref09Thing)) × ReorderConfig × Bool × Int × Int × FrameMaker × (List (Int × Antiphonref03Packet)) × ExtendSeq × ExtendClock × Int × Int × List FrameFrame) Bool)) :=
  bif (pickB (ltI s1.1 (lenL x2)) (ltI s1.1 80) false) then (
    need (InB s1.1 (lenL x2)) <|
    need (NonZ (lenL r3)) <|
    need (NonZ (lenL r3)) <|
    ((samePut r3 (IngressSource.mk (ReorderBuffer.mk s1.2.2.1 s1.2.2.2.1 s1.2.2.2.2.1 s1.2.1 s1.2.2.2.2.2.1) s1.2.2.2.2.2.2.1 s1.2.2.2.2.2.2.2.2.1 s1.2.2.2.2.2.2.2.2.2.1 s1.2.2.2.2.2.2.2.1 s1.2.2.2.2.2.2.2.2.2.2.1 s1.2.2.2.2.2.2.2.2.2.2.2.1) s1.2.2.2.2.2.2.2.2.2.2.2.2 (remI (addI .i64 (remI (nthI x2 s1.1) (lenL r3)) (lenL r3)) (lenL r3)))).bind fun r5 =>
    some (.go ((addI .i64 s1.1 1), r5.2.fBuffer.fOf, r5.2.fBuffer.fConfig, r5.2.fBuffer.fBegun, r5.2.fBuffer.fNext, r5.2.fBuffer.fLost, r5.2.fMaker, r5.2.fOf, r5.2.fSeq, r5.2.fClock, r5.2.fBad, r5.2.fKeys, r5.1))
  ) else (
    some (.out (.go (s1.2.1, s1.2.2.1, s1.2.2.2.1, s1.2.2.2.2.1, s1.2.2.2.2.2.1, s1.2.2.2.2.2.2.1, s1.2.2.2.2.2.2.2.1, s1.2.2.2.2.2.2.2.2.1, s1.2.2.2.2.2.2.2.2.2.1, s1.2.2.2.2.2.2.2.2.2.2.1, s1.2.2.2.2.2.2.2.2.2.2.2.1, s1.2.2.2.2.2.2.2.2.2.2.2.2)))
  )

noncomputable def gLaw11IngressSame.loop2 (r3 : List Antiphonref03Packet) (s2 : Int × (List (Int × Antiphonref09Thing)) × ReorderConfig × Bool × Int × Int × FrameMaker × (List (Int × Antiphonref03Packet)) × ExtendSeq × ExtendClock × Int × Int × List FrameFrame) : Option (Fl (Int × (List (Int × Antiphonref09Thing)) × ReorderConfig × Bool × Int × Int × FrameMaker × (List (Int × Antiphonref03Packet)) × ExtendSeq × ExtendClock × Int × Int × List FrameFrame) (Fl ((List (Int × Antiphonref09Thing)) × ReorderConfig × Bool × Int × Int × FrameMaker × (List (Int × Antiphonref03Packet)) × ExtendSeq × ExtendClock × Int × Int × List FrameFrame) Bool)) :=
  bif (ltI s2.1 (lenL r3)) then (
    ((samePut r3 (IngressSource.mk (ReorderBuffer.mk s2.2.2.1 s2.2.2.2.1 s2.2.2.2.2.1 s2.2.1 s2.2.2.2.2.2.1) s2.2.2.2.2.2.2.1 s2.2.2.2.2.2.2.2.2.1 s2.2.2.2.2.2.2.2.2.2.1 s2.2.2.2.2.2.2.2.1 s2.2.2.2.2.2.2.2.2.2.2.1 s2.2.2.2.2.2.2.2.2.2.2.2.1) s2.2.2.2.2.2.2.2.2.2.2.2.2 s2.1)).bind fun r6 =>
    some (.go ((addI .i64 s2.1 1), r6.2.fBuffer.fOf, r6.2.fBuffer.fConfig, r6.2.fBuffer.fBegun, r6.2.fBuffer.fNext, r6.2.fBuffer.fLost, r6.2.fMaker, r6.2.fOf, r6.2.fSeq, r6.2.fClock, r6.2.fBad, r6.2.fKeys, r6.1))
  ) else (
    some (.out (.go (s2.2.1, s2.2.2.1, s2.2.2.2.1, s2.2.2.2.2.1, s2.2.2.2.2.2.1, s2.2.2.2.2.2.2.1, s2.2.2.2.2.2.2.2.1, s2.2.2.2.2.2.2.2.2.1, s2.2.2.2.2.2.2.2.2.2.1, s2.2.2.2.2.2.2.2.2.2.2.1, s2.2.2.2.2.2.2.2.2.2.2.2.1, s2.2.2.2.2.2.2.2.2.2.2.2.2)))
  )

noncomputable def gLaw11IngressSame.loop4 (r3 : List Antiphonref03Packet) (s3 : Int × Int) (v2 : (List (Int × Antiphonref09Thing)) × ReorderConfig × Bool × Int × Int × FrameMaker × (List (Int × Antiphonref03Packet)) × ExtendSeq × ExtendClock × Int × Int × List FrameFrame) (s4 : Int × Int) : Option (Fl (Int × Int) (Fl Int (Fl (Int × Int) (Fl Int Bool)))) :=
  bif (ltI s4.1 (lenL ((nthI v2.2.2.2.2.2.2.2.2.2.2.2 s3.1).fUnits))) then (
    need (InB s4.1 (lenL ((nthI v2.2.2.2.2.2.2.2.2.2.2.2 s3.1).fUnits))) <|
    need (InB s4.2 (lenL r3)) <|
    need (Under (neS ((nthI ((nthI v2.2.2.2.2.2.2.2.2.2.2.2 s3.1).fUnits) s4.1).fText) ((nthI r3 s4.2).fPayload)) false (InB s4.2 (lenL r3))) <|
    bif (pickB (neS ((nthI ((nthI v2.2.2.2.2.2.2.2.2.2.2.2 s3.1).fUnits) s4.1).fText) ((nthI r3 s4.2).fPayload)) true (neI (cvtI .u16 ((nthI ((nthI v2.2.2.2.2.2.2.2.2.2.2.2 s3.1).fUnits) s4.1).fAt)) ((nthI r3 s4.2).fSeq))) then (
      some (.out (.out (.out (.out false))))
    ) else (
      some (.go ((addI .i64 s4.1 1), (addI .i64 s4.2 1)))
    )
  ) else (
    some (.out (.go s4.2))
  )

noncomputable def gLaw11IngressSame.loop3 (x1 : List Int) (r3 : List Antiphonref03Packet) (v2 : (List (Int × Antiphonref09Thing)) × ReorderConfig × Bool × Int × Int × FrameMaker × (List (Int × Antiphonref03Packet)) × ExtendSeq × ExtendClock × Int × Int × List FrameFrame) (s3 : Int × Int) : Option (Fl (Int × Int) (Fl Int Bool)) :=
  bif (ltI s3.1 (lenL v2.2.2.2.2.2.2.2.2.2.2.2)) then (
    need (InB s3.1 (lenL v2.2.2.2.2.2.2.2.2.2.2.2)) <|
    ((gFrameFrameKey (nthI v2.2.2.2.2.2.2.2.2.2.2.2 s3.1))).bind fun r7 =>
    need (NonZ 3) <|
    need (Under (neB r7 (eqI (remI s3.1 3) 0)) false (InB s3.1 (lenL x1))) <|
    bif (pickB (neB r7 (eqI (remI s3.1 3) 0)) true (neI (lenL ((nthI v2.2.2.2.2.2.2.2.2.2.2.2 s3.1).fUnits)) (addI .i64 1 (bitsOp .and .i64 (nthI x1 s3.1) 3)))) then (
      some (.out (.out false))
    ) else (
      ((loopF (gLaw11IngressSame.loop4 r3 s3 v2) (0, s3.2)).bind fun f => flC f fun (v4 : Int) =>
        some (.go ((addI .i64 s3.1 1), v4))
      )
    )
  ) else (
    some (.out (.go s3.2))
  )

noncomputable def gLaw11IngressSame (x0 : Int) (x1 : List Int) (x2 : List Int) : Option Bool :=
  (gLaw11Awake).bind fun r1 =>
  bif (notB r1) then (
    some false
  ) else (
    ((gLaw11Begin (IngressConfig.mk (ReorderConfig.mk 64 31) (FrameConfig.mk true 400 8 31)))).bind fun r2 =>
    optC r2.1 (
      ((gLaw11Stream x0 x1)).bind fun r3 =>
      bif (pickB (notB r2.2.2) true (eqI (lenL r3) 0)) then (
        some r2.2.2
      ) else (
        none
      )
    ) fun o1 => (
      ((gLaw11Stream x0 x1)).bind fun r3 =>
      bif (pickB (notB r2.2.2) true (eqI (lenL r3) 0)) then (
        some r2.2.2
      ) else (
        ((samePut r3 o1 [] 0)).bind fun r4 =>
        ((loopF (gLaw11IngressSame.loop1 x2 r3) (0, r4.2.fBuffer.fOf, r4.2.fBuffer.fConfig, r4.2.fBuffer.fBegun, r4.2.fBuffer.fNext, r4.2.fBuffer.fLost, r4.2.fMaker, r4.2.fOf, r4.2.fSeq, r4.2.fClock, r4.2.fBad, r4.2.fKeys, r4.1)).bind fun f => flC f fun (v1 : (List (Int × Antiphonref09Thing)) × ReorderConfig × Bool × Int × Int × FrameMaker × (List (Int × Antiphonref03Packet)) × ExtendSeq × ExtendClock × Int × Int × List FrameFrame) =>
          ((loopF (gLaw11IngressSame.loop2 r3) (0, v1.1, v1.2.1, v1.2.2.1, v1.2.2.2.1, v1.2.2.2.2.1, v1.2.2.2.2.2.1, v1.2.2.2.2.2.2.1, v1.2.2.2.2.2.2.2.1, v1.2.2.2.2.2.2.2.2.1, v1.2.2.2.2.2.2.2.2.2.1, v1.2.2.2.2.2.2.2.2.2.2.1, v1.2.2.2.2.2.2.2.2.2.2.2)).bind fun f => flC f fun (v2 : (List (Int × Antiphonref09Thing)) × ReorderConfig × Bool × Int × Int × FrameMaker × (List (Int × Antiphonref03Packet)) × ExtendSeq × ExtendClock × Int × Int × List FrameFrame) =>
            ((loopF (gLaw11IngressSame.loop3 x1 r3 v2) (0, 0)).bind fun f => flC f fun (v3 : Int) =>
              need (Under (eqI v3 (lenL r3)) true ((gReorderBufferLen (ReorderBuffer.mk v2.2.1 v2.2.2.1 v2.2.2.2.1 v2.1 v2.2.2.2.2.1)).isSome = true)) <|
              need (Under (pickB (eqI v3 (lenL r3)) (eqI ((gReorderBufferLen (ReorderBuffer.mk v2.2.1 v2.2.2.1 v2.2.2.2.1 v2.1 v2.2.2.2.2.1)).getD dflt) 0) false) true ((gReorderBufferLost (ReorderBuffer.mk v2.2.1 v2.2.2.1 v2.2.2.2.1 v2.1 v2.2.2.2.2.1)).isSome = true)) <|
              some (pickB (pickB (eqI v3 (lenL r3)) (eqI ((gReorderBufferLen (ReorderBuffer.mk v2.2.1 v2.2.2.1 v2.2.2.2.1 v2.1 v2.2.2.2.2.1)).getD dflt) 0) false) (eqI ((gReorderBufferLost (ReorderBuffer.mk v2.2.1 v2.2.2.1 v2.2.2.2.1 v2.1 v2.2.2.2.2.1)).getD dflt) 0) false)
            )
          )
        )
      )
    )
  )
end Go.Proofs
end
section
namespace Go.Proofs
open Go.Ab

theorem runL_app : ∀ (L : List Thg) (n : Int), (runL n L).1 ++ (runL n L).2.2 = L
  | [], _ => rfl
  | t :: r, n => by
    by_cases h : t.fAt = n
    · rw [runL_t h]
      simp only [List.cons_append, runL_app r (n + 1)]
    · rw [runL_f h]; rfl
theorem skip_app (x : RBf) : (skipS x).2 ++ (skipS x).1.fL = x.fL := by
  unfold skipS
  split
  · rename_i h; simp [h]
  · exact runL_app _ _
theorem while_app (c : RBf → Bool) : ∀ (f : Nat) (x : RBf), (whileS c f x).2 ++ (whileS c f x).1.fL = x.fL
  | 0, x => rfl
  | f + 1, x => by
    unfold whileS
    split
    · simp only
      rw [List.append_assoc, while_app c f, skip_app]
    · rfl
theorem put_cases {x : RBf} (h : Inv x) {t : Thg} (ht : Good t) : (t.fAt < (begS x t).fNext ∧ putS x t = (begS x t, [], 13)) ∨ (hasL t.fAt x.fL = true ∧ putS x t = (begS x t, [], 14)) ∨
    (¬ t.fAt < (begS x t).fNext ∧ hasL t.fAt x.fL = false ∧ (putS x t).2.2 = 0 ∧ (putS x t).2.1 ++ (putS x t).1.fL = insL t x.fL) := by
  obtain ⟨_, b2, _⟩ := beg_ok h ht
  unfold putS
  split
  · rename_i h1; exact .inl ⟨h1, rfl⟩
  · rename_i h1
    split
    · rename_i h2; exact .inr (.inl ⟨h2, rfl⟩)
    · rename_i h2
      refine .inr (.inr ⟨h1, by simpa using h2, rfl, ?_⟩)
      simp only
      rw [List.append_assoc, while_app]
      have := runL_app (addS (begS x t) t).fL (addS (begS x t) t).fNext
      show (runL (addS (begS x t) t).fNext (addS (begS x t) t).fL).1 ++ (runL (addS (begS x t) t).fNext (addS (begS x t) t).fL).2.2 = _
      rw [this, ← b2]; rfl
theorem Ris.le : ∀ {l : List Thg} {lo hi : Int}, Ris lo l hi → lo ≤ hi
  | [], _, _, h => h
  | t :: r, lo, hi, h => by
    have := Ris.le h.2
    have := h.1
    omega
theorem Ris.lt : ∀ {l : List Thg} {lo hi : Int}, Ris lo l hi → ∀ t ∈ l, t.fAt < hi
  | t :: r, lo, hi, h, u, hu => by
    rcases List.mem_cons.1 hu with rfl | hu
    · have := Ris.le h.2; omega
    · exact Ris.lt h.2 u hu
theorem findP_other {k k' : Int} {p : Pk} (h : k' ≠ k) : ∀ {L : List Came}, findP (L ++ [⟨k, p⟩]) k' = findP L k'
  | [] => by
    show (if k = k' then p else zeroPk) = zeroPk
    rw [if_neg (fun e => h e.symm)]
  | c :: r => by
    show (if c.fAt = k' then c.fP else findP (r ++ [⟨k, p⟩]) k') = (if c.fAt = k' then c.fP else findP r k')
    rw [findP_other h]
theorem findP_new {k : Int} {p : Pk} : ∀ {L : List Came}, (∀ c ∈ L, c.fAt ≠ k) → findP (L ++ [⟨k, p⟩]) k = p
  | [], _ => by
    show (if k = k then p else zeroPk) = p
    rw [if_pos rfl]
  | c :: r, h => by
    show (if c.fAt = k then c.fP else findP (r ++ [⟨k, p⟩]) k) = p
    rw [if_neg (h c (.head _))]
    exact findP_new fun c hc => h c (.tail _ hc)

/-- What holds of the document's source between the calls. -/
structure SOk (X : Antiphonref11Source) (c : FrameConfig) (B : Int) (k : Nat) : Prop where
  sq : SeqOk X.fSeq B
  od : Inv X.fOrder
  mkr : X.fMaker = refOf c X.fMaker.fOpen X.fMaker.fWhole X.fMaker.fLost
  hd : Held c X.fMaker.fOpen
  cm : ∀ m ∈ X.fL, POk m.fP
  ln : X.fL.length ≤ k
  un : ∀ m ∈ X.fL, X.fOrder.fBegun = true ∧ (m.fAt < X.fOrder.fNext ∨ hasL m.fAt X.fOrder.fL = true)
/-- What the program's source is to the document's. -/
structure SRel (s : IngressSource) (X : Antiphonref11Source) (c : FrameConfig) : Prop where
  bf : Rel s.fBuffer X.fOrder
  mkr : s.fMaker = .mk c ⟨X.fMaker.fOpen⟩ X.fMaker.fWhole X.fMaker.fLost
  sq : SeqRel s.fSeq X.fSeq
  ck : ClkRel s.fClock X.fClock
  mp : s.fOf.Perm (X.fOrder.fL.map fun t => (t.fAt, normP (findP X.fL t.fAt)))
  bad : s.fBad = X.fBad
  keys : s.fKeys = X.fKeys

def fsOf (X : Antiphonref11Source) : FS := ⟨X.fClock, X.fMaker.fOpen, X.fMaker.fWhole, X.fMaker.fLost, X.fKeys⟩
noncomputable def putM (c : FrameConfig) (X : Antiphonref11Source) (p : Pk) (now : Int) : Antiphonref11Source × List (List Un) × Int :=
  let q := seqM X.fSeq p.fSeq
  if q.2.2 = false then (.mk q.1 X.fClock X.fOrder X.fMaker X.fL (addI .i64 X.fBad 1) X.fKeys, [], 13)
  else
    let b := putS X.fOrder ⟨q.2.1, ⟨#[]⟩, now⟩
    if b.2.2 ≠ 0 then (.mk q.1 X.fClock b.1 X.fMaker X.fL (addI .i64 X.fBad 1) X.fKeys, [], b.2.2)
    else
      let z := framesM c (X.fL ++ [⟨q.2.1, p⟩]) b.2.1 (fsOf X)
      (srcF (.mk q.1 X.fClock b.1 X.fMaker (X.fL ++ [⟨q.2.1, p⟩]) X.fBad X.fKeys) c z.1, z.2, 0)
theorem pend_good {x : RBf} (h : Ok x) : ∀ t ∈ x.fL, Good t := fun t ht => by
  have h1 := h.up.mem t ht
  have h0 := h.nn
  obtain ⟨h2, h3, h4⟩ := h.at_ t ht
  exact ⟨by omega, h2, h3, h4⟩
theorem bd_of {x : RBf} (h : Ok x) : Bd 1000000000000 x := ⟨h.nb, fun t ht => by have := (h.at_ t ht).1; omega⟩

theorem keys_of {m : List (Int × Pk)} {D : List Thg} {F : Thg → Pk} (h : m.Perm (D.map fun t => (t.fAt, F t))) : (keysM m).Perm (D.map (·.fAt)) := by
  have := keysM_perm h
  unfold keysM at this
  rw [List.map_map] at this
  exact this
theorem hasM_has {m : List (Int × Pk)} {D : List Thg} {F : Thg → Pk} (h : m.Perm (D.map fun t => (t.fAt, F t))) (k : Int) : hasM eqI k m = hasL k D := by
  have hp := keys_of h
  cases hh : hasL k D with
  | true =>
    obtain ⟨u, hu, e⟩ := hasL_t.1 hh
    exact hasM_t (hp.mem_iff.2 (List.mem_map.2 ⟨u, hu, e⟩))
  | false =>
    refine hasM_f fun hk => ?_
    obtain ⟨u, hu, e⟩ := List.mem_map.1 (hp.mem_iff.1 hk)
    rw [hasL_t.2 ⟨u, hu, e⟩] at hh
    cases hh

end Go.Proofs
end

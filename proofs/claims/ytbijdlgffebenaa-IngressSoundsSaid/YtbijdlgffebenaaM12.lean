/- What these functions compute, as plain functions. No condition. -/
import Derived.Test.YtbijdlgffebenaaTs
import Derived.Test.YtbijdlgffebenaaM08
import Derived.Test.YtbijdlgffebenaaM05
import Derived.Test.YtbijdlgffebenaaM10
import Derived.Test.YtbijdlgffebenaaM02
import Derived.Test.YtbijdlgffebenaaRt
section
namespace Go.Proofs
open Go.Ab
noncomputable def gSlicesClipUint16Uint16 (x0 : List Int) : Option (List Int) :=
  need (CutB 0 (lenL x0) (lenL x0)) <|
  some (cutL x0 0 (lenL x0))

noncomputable def gIngressConfigCheck (x0 : IngressConfig) : Option Int :=
  ((gReorderConfigCheck x0.fOrder)).bind fun r1 =>
  bif (neI r1 0) then (
    some r1
  ) else (
    ((gFrameConfigCheck x0.fFrame)).bind fun r2 =>
    some r2
  )

noncomputable def gIngressNew (x0 : IngressConfig) : Option (Option IngressSource × Int) :=
  ((gReorderNew x0.fOrder)).bind fun r1 =>
  optC r1.1 (
    bif (neI r1.2 0) then (
      some (none, r1.2)
    ) else (
      ((gFrameNew x0.fFrame)).bind fun r2 =>
      optC r2.1 (
        bif (neI r2.2 0) then (
          some (none, r2.2)
        ) else (
          none
        )
      ) fun o2 => (
        bif (neI r2.2 0) then (
          some (none, r2.2)
        ) else (
          none
        )
      )
    )
  ) fun o1 => (
    bif (neI r1.2 0) then (
      some (none, r1.2)
    ) else (
      ((gFrameNew x0.fFrame)).bind fun r2 =>
      optC r2.1 (
        bif (neI r2.2 0) then (
          some (none, r2.2)
        ) else (
          none
        )
      ) fun o2 => (
        bif (neI r2.2 0) then (
          some (none, r2.2)
        ) else (
          some ((some (IngressSource.mk o1 o2 (ExtendSeq.mk false 0 0 0 0) (ExtendClock.mk false 0) [] 0 0)), 0)
        )
      )
    )
  )

noncomputable def gIngressSourceBad (x0 : IngressSource) : Option Int :=
  some x0.fBad

noncomputable def gIngressSourceCounts (x0 : IngressSource) : Option (Int × Int) :=
  ((gFrameMakerCounts x0.fMaker)).bind fun r1 =>
  some (r1.1, r1.2)

noncomputable def gIngressSourceKeys (x0 : IngressSource) : Option Int :=
  some x0.fKeys

noncomputable def gIngressSourceUnit (x0 : IngressSource) (x1 : Antiphonref09Thing) : Option (Antiphonref10Unit × IngressSource) :=
  ((gExtendClockPutInIngressSource7 (IngressSource.mk x0.fBuffer x0.fMaker x0.fSeq x0.fClock (delM eqI x1.fAt x0.fOf) x0.fBad x0.fKeys) ((getM eqI x1.fAt (Antiphonref03Packet.mk false 0 0 0 0 [] false 0 ⟨⟨[]⟩⟩ ⟨⟨[]⟩⟩ 0) x0.fOf).fTime))).bind fun r1 =>
  ((
    ((gVp8Parse ((getM eqI x1.fAt (Antiphonref03Packet.mk false 0 0 0 0 [] false 0 ⟨⟨[]⟩⟩ ⟨⟨[]⟩⟩ 0) x0.fOf).fPayload))).bind fun r2 =>
    bif (pickB r1.2.fMaker.fConfig.fVideo (eqI r2.2.2 0) false) then (
      ((gVp8Keyframe r2.1 r2.2.1)).bind fun r3 =>
      some (.go (Antiphonref10Unit.mk x1.fAt r1.1 ((getM eqI x1.fAt (Antiphonref03Packet.mk false 0 0 0 0 [] false 0 ⟨⟨[]⟩⟩ ⟨⟨[]⟩⟩ 0) x0.fOf).fMarker) (pickB r2.1.fStart (eqI r2.1.fPart 0) false) r3 ((getM eqI x1.fAt (Antiphonref03Packet.mk false 0 0 0 0 [] false 0 ⟨⟨[]⟩⟩ ⟨⟨[]⟩⟩ 0) x0.fOf).fPayload) x1.fTick))
    ) else (
      some (.go (Antiphonref10Unit.mk x1.fAt r1.1 ((getM eqI x1.fAt (Antiphonref03Packet.mk false 0 0 0 0 [] false 0 ⟨⟨[]⟩⟩ ⟨⟨[]⟩⟩ 0) x0.fOf).fMarker) false false ((getM eqI x1.fAt (Antiphonref03Packet.mk false 0 0 0 0 [] false 0 ⟨⟨[]⟩⟩ ⟨⟨[]⟩⟩ 0) x0.fOf).fPayload) x1.fTick))
    )
    : Option (Fl Antiphonref10Unit (Antiphonref10Unit × IngressSource))).bind fun f => flC f fun (v1 : Antiphonref10Unit) =>
    some (v1, r1.2)
  )

noncomputable def gIngressSourceFrames.loop1 (x1 : List Antiphonref09Thing) (s1 : Int × ExtendSeq × ExtendClock × Int × Int × ReorderConfig × Bool × Int × Int × (List (Int × Antiphonref09Thing)) × FrameMaker × (List (Int × Antiphonref03Packet)) × List FrameFrame) : Option (Fl (Int × ExtendSeq × ExtendClock × Int × Int × ReorderConfig × Bool × Int × Int × (List (Int × Antiphonref09Thing)) × FrameMaker × (List (Int × Antiphonref03Packet)) × List FrameFrame) (Fl (List FrameFrame × ExtendSeq × ExtendClock × Int × Int × ReorderConfig × Bool × Int × Int × (List (Int × Antiphonref09Thing)) × FrameMaker × (List (Int × Antiphonref03Packet))) (List FrameFrame × IngressSource))) :=
  bif (ltI s1.1 (lenL x1)) then (
    need (InB s1.1 (lenL x1)) <|
    ((gIngressSourceUnit (IngressSource.mk (ReorderBuffer.mk s1.2.2.2.2.2.1 s1.2.2.2.2.2.2.1 s1.2.2.2.2.2.2.2.1 s1.2.2.2.2.2.2.2.2.2.1 s1.2.2.2.2.2.2.2.2.1) s1.2.2.2.2.2.2.2.2.2.2.1 s1.2.1 s1.2.2.1 s1.2.2.2.2.2.2.2.2.2.2.2.1 s1.2.2.2.1 s1.2.2.2.2.1) (nthI x1 s1.1))).bind fun r1 =>
    ((gFrameMakerPut r1.2.fMaker r1.1)).bind fun r2 =>
    bif (notB r2.2.1) then (
      some (.go ((addI .i64 s1.1 1), r1.2.fSeq, r1.2.fClock, r1.2.fBad, r1.2.fKeys, r1.2.fBuffer.fConfig, r1.2.fBuffer.fBegun, r1.2.fBuffer.fNext, r1.2.fBuffer.fLost, r1.2.fBuffer.fOf, r2.2.2, r1.2.fOf, s1.2.2.2.2.2.2.2.2.2.2.2.2))
    ) else (
      ((
        ((gFrameFrameKey r2.1)).bind fun r3 =>
        bif r3 then (
          some (.go (addI .i64 r1.2.fKeys 1))
        ) else (
          some (.go r1.2.fKeys)
        )
        : Option (Fl Int (Fl (Int × ExtendSeq × ExtendClock × Int × Int × ReorderConfig × Bool × Int × Int × (List (Int × Antiphonref09Thing)) × FrameMaker × (List (Int × Antiphonref03Packet)) × List FrameFrame) (Fl (List FrameFrame × ExtendSeq × ExtendClock × Int × Int × ReorderConfig × Bool × Int × Int × (List (Int × Antiphonref09Thing)) × FrameMaker × (List (Int × Antiphonref03Packet))) (List FrameFrame × IngressSource))))).bind fun f => flC f fun (v2 : Int) =>
        need (AppB (lenL s1.2.2.2.2.2.2.2.2.2.2.2.2) 1 24) <|
        some (.go ((addI .i64 s1.1 1), r1.2.fSeq, r1.2.fClock, r1.2.fBad, v2, r1.2.fBuffer.fConfig, r1.2.fBuffer.fBegun, r1.2.fBuffer.fNext, r1.2.fBuffer.fLost, r1.2.fBuffer.fOf, r2.2.2, r1.2.fOf, (appL s1.2.2.2.2.2.2.2.2.2.2.2.2 [r2.1])))
      )
    )
  ) else (
    some (.out (.go (s1.2.2.2.2.2.2.2.2.2.2.2.2, s1.2.1, s1.2.2.1, s1.2.2.2.1, s1.2.2.2.2.1, s1.2.2.2.2.2.1, s1.2.2.2.2.2.2.1, s1.2.2.2.2.2.2.2.1, s1.2.2.2.2.2.2.2.2.1, s1.2.2.2.2.2.2.2.2.2.1, s1.2.2.2.2.2.2.2.2.2.2.1, s1.2.2.2.2.2.2.2.2.2.2.2.1)))
  )

noncomputable def gIngressSourceFrames (x0 : IngressSource) (x1 : List Antiphonref09Thing) : Option (List FrameFrame × IngressSource) :=
  ((loopF (gIngressSourceFrames.loop1 x1) (0, x0.fSeq, x0.fClock, x0.fBad, x0.fKeys, x0.fBuffer.fConfig, x0.fBuffer.fBegun, x0.fBuffer.fNext, x0.fBuffer.fLost, x0.fBuffer.fOf, x0.fMaker, x0.fOf, [])).bind fun f => flC f fun (v1 : List FrameFrame × ExtendSeq × ExtendClock × Int × Int × ReorderConfig × Bool × Int × Int × (List (Int × Antiphonref09Thing)) × FrameMaker × (List (Int × Antiphonref03Packet))) =>
    some (v1.1, (IngressSource.mk (ReorderBuffer.mk v1.2.2.2.2.2.1 v1.2.2.2.2.2.2.1 v1.2.2.2.2.2.2.2.1 v1.2.2.2.2.2.2.2.2.2.1 v1.2.2.2.2.2.2.2.2.1) v1.2.2.2.2.2.2.2.2.2.2.1 v1.2.1 v1.2.2.1 v1.2.2.2.2.2.2.2.2.2.2.2 v1.2.2.2.1 v1.2.2.2.2.1))
  )

noncomputable def gIngressSourcePut (x0 : IngressSource) (x1 : Antiphonref03Packet) (x2 : Int) : Option (List FrameFrame × Int × IngressSource) :=
  ((gExtendSeqPutInIngressSource2 x0 x1.fSeq)).bind fun r1 =>
  bif (notB r1.2.1) then (
    some ([], 13, (IngressSource.mk r1.2.2.fBuffer r1.2.2.fMaker r1.2.2.fSeq r1.2.2.fClock r1.2.2.fOf (addI .i64 r1.2.2.fBad 1) r1.2.2.fKeys))
  ) else (
    ((
      bif (eqS x1.fPayload ⟨#[]⟩) then (
        some (.go (Antiphonref03Packet.mk false x1.fType x1.fSeq x1.fTime x1.fSsrc x1.fCsrcs x1.fExt x1.fProfile x1.fData x1.fPayload x1.fPadding))
      ) else (
        some (.go x1)
      )
      : Option (Fl Antiphonref03Packet (List FrameFrame × Int × IngressSource))).bind fun f => flC f fun (v1 : Antiphonref03Packet) =>
      ((
        bif (notB (hasM eqI r1.1 r1.2.2.fOf)) then (
          some (.go (setM eqI r1.1 v1 r1.2.2.fOf))
        ) else (
          some (.go r1.2.2.fOf)
        )
        : Option (Fl (List (Int × Antiphonref03Packet)) (List FrameFrame × Int × IngressSource))).bind fun f => flC f fun (v2 : (List (Int × Antiphonref03Packet))) =>
        ((gReorderBufferPut r1.2.2.fBuffer (Antiphonref09Thing.mk r1.1 ⟨#[]⟩ x2))).bind fun r2 =>
        bif (neI r2.2.1 0) then (
          ((
            bif (eqI r2.2.1 13) then (
              some (.go (delM eqI r1.1 v2))
            ) else (
              some (.go v2)
            )
            : Option (Fl (List (Int × Antiphonref03Packet)) (List FrameFrame × Int × IngressSource))).bind fun f => flC f fun (v3 : (List (Int × Antiphonref03Packet))) =>
            some ([], r2.2.1, (IngressSource.mk r2.2.2 r1.2.2.fMaker r1.2.2.fSeq r1.2.2.fClock v3 (addI .i64 r1.2.2.fBad 1) r1.2.2.fKeys))
          )
        ) else (
          ((gIngressSourceFrames (IngressSource.mk r2.2.2 r1.2.2.fMaker r1.2.2.fSeq r1.2.2.fClock v2 r1.2.2.fBad r1.2.2.fKeys) r2.1)).bind fun r3 =>
          some (r3.1, 0, r3.2)
        )
      )
    )
  )

noncomputable def gIngressSourceTick (x0 : IngressSource) (x1 : Int) : Option (List FrameFrame × IngressSource) :=
  ((gReorderBufferTick x0.fBuffer x1)).bind fun r1 =>
  ((gIngressSourceFrames (IngressSource.mk r1.2 x0.fMaker x0.fSeq x0.fClock x0.fOf x0.fBad x0.fKeys) r1.1)).bind fun r2 =>
  ((gFrameMakerTick r2.2.fMaker x1)).bind fun r3 =>
  some (r2.1, (IngressSource.mk r2.2.fBuffer r3.2 r2.2.fSeq r2.2.fClock r2.2.fOf r2.2.fBad r2.2.fKeys))

noncomputable def gIngressSourceNacks.loop1 (r1 : List Int) (s1 : Int × List Int) : Option (Fl (Int × List Int) (Fl (List Int) (List Int))) :=
  bif (ltI s1.1 (lenL r1)) then (
    need (InB s1.1 (lenL r1)) <|
    need (AppB (lenL s1.2) 1 2) <|
    some (.go ((addI .i64 s1.1 1), (appL s1.2 [(cvtI .u16 (nthI r1 s1.1))])))
  ) else (
    some (.out (.go s1.2))
  )

noncomputable def gIngressSourceNacks (x0 : IngressSource) (x1 : Int) : Option (List Int) :=
  ((gReorderBufferMissing x0.fBuffer x1)).bind fun r1 =>
  ((loopF (gIngressSourceNacks.loop1 r1) (0, [])).bind fun f => flC f fun (v1 : List Int) =>
    ((gSlicesClipUint16Uint16 v1)).bind fun r2 =>
    some r2
  )
end Go.Proofs
end
section
namespace Go.Proofs
open Go.Ab

def tickS (x : RBf) (now : Int) : RBf × List Thg := whileS (cTick now) x.fL.length x
def flushS (x : RBf) : RBf × List Thg := whileS cAny x.fL.length x

theorem rtick_loop (now : Int) (hn0 : 0 ≤ now) (hn1 : now ≤ 1000000000000) (f : Nat) (x : RBf) (acc : List Thg) (hl : x.fL.length ≤ f) (h : Ok x) (hb : acc.length + x.fL.length ≤ 2000000) :
    loopF (gRef09Tick.loop1 now) (acc, x) = some (.go (acc ++ (whileS (cTick now) f x).2, (whileS (cTick now) f x).1)) := by
  have hstop : ∀ (acc : List Thg) (x : RBf), Ok x → cTick now x = false → gRef09Tick.loop1 now (acc, x) = some (.out (.go (acc, x))) := fun acc x h hc => by
    unfold gRef09Tick.loop1
    cases hL : x.fL with
    | nil =>
      have : ltI 0 (lenL x.fL) = false := ltI_f (by rw [hL, lenL_nil]; omega)
      rw [hL] at this
      simp only [hL, this]
      rw [need_t (by intro e; cases e)]; rfl
    | cons t r =>
      simp only [cTick, hL, decide_eq_false_iff_not] at hc
      obtain ⟨_, ht0, ht1⟩ := h.at_ t (by rw [hL]; exact .head _)
      have hp : ltI 0 (lenL (t :: r)) = true := ltI_t (by rw [lenL_def]; simp only [List.length_cons]; omega)
      simp only [hL, nthI_zero]
      rw [need_t (under_of ⟨by omega, by rw [lenL_def]; simp only [List.length_cons]; omega⟩), hp, subI_n (by omega) (by omega), leI_f hc]; rfl
  induction f generalizing x acc with
  | zero =>
    have hL : x.fL = [] := List.eq_nil_of_length_eq_zero (by omega)
    rw [loopF_eq, hstop acc x h (by simp [cTick, hL])]
    simp [whileS]
  | succ f ih =>
    rw [loopF_eq]
    cases hh : cTick now x with
    | false =>
      rw [hstop acc x h hh]
      simp [whileS, hh]
    | true =>
      have hne := cTick_ne now x hh
      obtain ⟨ep, q1, q2⟩ := rskip_step h hne hb
      cases hL : x.fL with
      | nil => exact absurd hL hne
      | cons t r =>
        have : gRef09Tick.loop1 now (acc, x) = some (.go (acc ++ (skipS x).2, (skipS x).1)) := by
          have hc := hh
          simp only [cTick, hL, decide_eq_true_eq] at hc
          obtain ⟨_, ht0, ht1⟩ := h.at_ t (by rw [hL]; exact .head _)
          have hp : ltI 0 (lenL x.fL) = true := ltI_t (by rw [lenL_def, hL]; simp only [List.length_cons]; omega)
          have hn : nthI x.fL 0 = t := by rw [hL]; rfl
          unfold gRef09Tick.loop1
          simp only [hn, hp, pickB_t]
          rw [need_t (under_of ⟨by omega, by rw [lenL_def, hL]; simp only [List.length_cons]; omega⟩), subI_n (by omega) (by omega), leI_t hc]
          simp only [cond_true, q1, bind_so]
          rw [need_t q2]; rfl
        rw [this]
        obtain ⟨k1, k2, k3⟩ := skip_ok h hL
        simp only
        rw [ih (skipS x).1 (acc ++ (skipS x).2) (by omega) k1 (by simp only [List.length_append]; omega)]
        simp [whileS, hh]

theorem rtick {x : RBf} (h : Inv x) {now : Int} (hn0 : 0 ≤ now) (hn1 : now ≤ 1000000000000) : gRef09Tick x now = some ((tickS x now).1, (tickS x now).2) := by
  unfold gRef09Tick
  rw [rtick_loop now hn0 hn1 x.fL.length x [] (Nat.le_refl _) h.toOk (by have := h.len; simp only [List.length_nil]; omega)]
  simp [tickS]
theorem otick {b : ReorderBuffer} {x : RBf} (hr : Rel b x) (h : Inv x) {now : Int} (hn0 : 0 ≤ now) (hn1 : now ≤ 1000000000000) : ∃ b', gReorderBufferTick b now = some ((tickS x now).2, b') ∧ Rel b' (tickS x now).1 := by
  obtain ⟨s', g1, g2⟩ := otick_loop now hn0 hn1 x.fL.length x [] _ (Nat.le_refl _) (oi_of hr []) h.toOk (by have := h.len; simp only [List.length_nil]; omega)
  unfold gReorderBufferTick
  rw [g1]
  simp only [bind_so, flC_go]
  refine ⟨_, ?_, g2.2⟩
  rw [g2.1]; rfl
theorem while_inv (c : RBf → Bool) (hc : ∀ x, c x = true → x.fL ≠ []) {x : RBf} (h : Inv x) : Inv (whileS c x.fL.length x).1 ∧ c (whileS c x.fL.length x).1 = false := by
  obtain ⟨w1, w2, w3⟩ := while_ok c hc x.fL.length x h.toOk (Nat.le_refl _)
  obtain ⟨m1, m2, m3⟩ := whileS_most c x.fL.length x
  refine ⟨{ w1 with m0 := by rw [m1]; exact h.m0, m1 := by rw [m1]; exact h.m1, ml := ?_, bg := fun e => ?_ }, w2⟩
  · rw [m1]
    have := h.ml
    rw [lenL_def] at this ⊢
    omega
  · rw [m2] at e
    obtain ⟨e1, e2⟩ := h.bg e
    have : whileS c x.fL.length x = (x, []) := by rw [e1]; rfl
    rw [this]; exact ⟨e1, e2⟩
theorem tick_inv {x : RBf} (h : Inv x) (now : Int) : Inv (tickS x now).1 := (while_inv (cTick now) (cTick_ne now) h).1
theorem flush_inv {x : RBf} (h : Inv x) : Inv (flushS x).1 ∧ (flushS x).1.fL = [] := by
  obtain ⟨h1, h2⟩ := while_inv cAny cAny_ne h
  refine ⟨h1, ?_⟩
  simp only [cAny, decide_eq_false_iff_not] at h2
  unfold flushS
  exact List.eq_nil_of_length_eq_zero (by rw [lenL_def] at h2; omega)

/-! ### What is missing -/
def fillS (most : Int) : Nat → Int → List Int → List Int
  | 0, _, out => out
  | f + 1, at_, out => if lenL out < most then fillS most f (at_ + 1) (out ++ [at_]) else out
def missS (most : Int) : Int → List Int → List Thg → List Int
  | _, out, [] => out
  | at_, out, t :: r => missS most (t.fAt + 1) (fillS most (t.fAt - at_).toNat at_ out) r

theorem fill_len (most : Int) : ∀ (f : Nat) (a : Int) (out : List Int), lenL (fillS most f a out) ≤ max (lenL out) most
  | 0, a, out => by simp only [fillS]; omega
  | f + 1, a, out => by
    unfold fillS
    split
    · have := fill_len most f (a + 1) (out ++ [a])
      have e : lenL (out ++ [a]) = lenL out + 1 := by simp [lenL]
      omega
    · omega

theorem fill_loop (x : RBf) (most : Int) (hm : most ≤ 1000) (s1 : Int × Int × List Int) : ∀ (f : Nat) (a : Int) (out : List Int), (((nthI x.fL s1.1).fAt) - a).toNat = f → -1000000000000 ≤ a → ((nthI x.fL s1.1).fAt) ≤ 1000000000000 → lenL out ≤ 1000 →
    loopF (gRef09Missing.loop2 x most s1) (a, out) = some (.go (fillS most f a out))
  | 0, a, out, hf, h0, h1, hl => by
    rw [loopF_eq]
    have : gRef09Missing.loop2 x most s1 (a, out) = some (.out (.go out)) := by
      unfold gRef09Missing.loop2
      rw [ltI_f (by simp only; omega)]; rfl
    rw [this]; rfl
  | f + 1, a, out, hf, h0, h1, hl => by
    rw [loopF_eq]
    by_cases q : lenL out < most
    · rw [show fillS most (f + 1) a out = fillS most f (a + 1) (out ++ [a]) from if_pos q]
      have : gRef09Missing.loop2 x most s1 (a, out) = some (.go (a + 1, out ++ [a])) := by
        unfold gRef09Missing.loop2
        rw [ltI_t (by simp only; omega), ltI_t q]
        simp only [pickB_t, cond_true]
        rw [need_app8 _ (lenL_nn _) (by decide) (by omega), addI_n (by omega) (by omega)]; rfl
      rw [this]
      exact fill_loop x most hm s1 f (a + 1) (out ++ [a]) (by omega) (by omega) h1 (by
        have e : lenL (out ++ [a]) = lenL out + 1 := by simp [lenL]
        omega)
    · rw [show fillS most (f + 1) a out = out from if_neg q]
      have : gRef09Missing.loop2 x most s1 (a, out) = some (.out (.go out)) := by
        unfold gRef09Missing.loop2
        rw [ltI_t (by simp only; omega), ltI_f q]; rfl
      rw [this]

theorem rmissing {x : RBf} (h : Ok x) {most : Int} (hm0 : 0 ≤ most) (hm : most ≤ 1000) : gRef09Missing x most = some (missS most x.fNext [] x.fL) := by
  have key : ∀ (k i : Nat) (a : Int) (out : List Int), x.fL.length - i = k → i ≤ x.fL.length → 0 ≤ a → a ≤ 1000000000000 → lenL out ≤ most →
      loopF (gRef09Missing.loop1 x most) ((i : Int), a, out) = some (.go (missS most a out (x.fL.drop i))) := by
    intro k
    induction k with
    | zero =>
      intro i a out hk hi _ _ _
      have hil : i = x.fL.length := by omega
      rw [loopF_eq]
      have : gRef09Missing.loop1 x most ((i : Int), a, out) = some (.out (.go out)) := by
        unfold gRef09Missing.loop1
        rw [ltI_f (by rw [lenL_def]; simp only; omega)]; rfl
      rw [this, hil, List.drop_length]; rfl
    | succ k ih =>
      intro i a out hk hi ha ha1 hlo
      have hlt : i < x.fL.length := by omega
      have hlen := h.len
      have hin : InB (i : Int) (lenL x.fL) := ⟨by omega, by rw [lenL_def]; omega⟩
      rw [drop_cons' hlt]
      have hn : nthI x.fL (i : Int) ∈ x.fL := by
        have : nthI x.fL (i : Int) = x.fL[i] := by simp [nthI, hlt]
        rw [this]; exact List.getElem_mem _
      have hat := (h.at_ _ hn).1
      have hup := h.up.mem _ hn
      have hnn := h.nn
      rw [loopF_eq]
      have : gRef09Missing.loop1 x most ((i : Int), a, out) = some (.go (((i + 1 : Nat) : Int), (nthI x.fL (i : Int)).fAt + 1, fillS most ((nthI x.fL (i : Int)).fAt - a).toNat a out)) := by
        unfold gRef09Missing.loop1
        rw [ltI_t hin.2]
        simp only [cond_true]
        rw [need_t hin, fill_loop x most hm ((i : Int), a, out) _ a out rfl (by omega) (by simp only; omega) (by omega)]
        simp only [bind_so, flC_go]
        rw [addI_n (by omega) (by omega), addI_n (by omega) (by omega)]; rfl
      rw [this]
      simp only
      rw [ih (i + 1) _ _ (by omega) (by omega) (by omega) (by omega) (by have := fill_len most ((nthI x.fL (i : Int)).fAt - a).toNat a out; omega)]
      rfl
  have := key x.fL.length 0 x.fNext [] (by omega) (by omega) h.nn h.nb (by simpa using hm0)
  unfold gRef09Missing
  simp only [Int.natCast_zero, List.drop_zero] at this
  rw [this]
  simp

theorem nthI_map {α β : Type} [Inhabited α] [Inhabited β] {f : α → β} (hd : f default = default) (l : List α) (n : Int) : nthI (l.map f) n = f (nthI l n) := by
  simp only [nthI, List.getD_eq_getElem?_getD, List.getElem?_map]
  cases l[n.toNat]? <;> simp [hd]

theorem omissing {b : ReorderBuffer} {x : RBf} (hr : Rel b x) (h : Ok x) {most : Int} (hm0 : 0 ≤ most) (hm : most ≤ 1000) : gReorderBufferMissing b most = some (missS most x.fNext [] x.fL) := by
  rw [← rmissing h hm0 hm]
  have hk : sortL (keysM b.fOf) = x.fL.map (·.fAt) := sortL_of hr.mp.keys (h.up.pair.imp fun h => by omega)
  have hb : KeysB (keysM b.fOf) := KeysB_of (fun k q => by
    obtain ⟨u, hu1, rfl⟩ := hr.mp.has.1 q
    have h1 := h.up.mem u hu1
    have h2 := h.at_ u hu1
    have h3 := h.nn
    exact ⟨by omega, by omega⟩) (by
    have := h.len
    have e : (keysM b.fOf).length = x.fL.length := by rw [hr.mp.keys.length_eq]; simp
    omega)
  have hd : (fun t : Thg => t.fAt) default = default := rfl
  have e2 : gReorderBufferMissing.loop2 b most = gRef09Missing.loop2 x most := by
    funext s1 s2
    unfold gReorderBufferMissing.loop2 gRef09Missing.loop2
    rw [hk, nthI_map hd]
  have e1 : gReorderBufferMissing.loop1 b most = gRef09Missing.loop1 x most := by
    funext s1
    unfold gReorderBufferMissing.loop1 gRef09Missing.loop1
    rw [hk, nthI_map hd, lenL_map, e2]
  unfold gReorderBufferMissing gRef09Missing
  rw [need_t hb, e1, hr.nx]
end Go.Proofs
end

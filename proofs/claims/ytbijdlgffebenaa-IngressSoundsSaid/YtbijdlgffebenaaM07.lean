/- What these functions compute, as plain functions. No condition. -/
import Derived.Test.YtbijdlgffebenaaTs
import Derived.Test.YtbijdlgffebenaaM10
import Derived.Test.YtbijdlgffebenaaM12
import Derived.Test.YtbijdlgffebenaaM08
import Derived.Test.YtbijdlgffebenaaJb
section
namespace Go.Proofs
open Go.Ab
noncomputable def gLaw11Stream.loop2 (x0 : Int) (x1 : List Int) (s1 : Int × List Antiphonref03Packet) (s2 : Int × List Antiphonref03Packet) : Option (Fl (Int × List Antiphonref03Packet) (Fl (List Antiphonref03Packet) (Fl (Int × List Antiphonref03Packet) (Fl (List Antiphonref03Packet) (List Antiphonref03Packet))))) :=
  bif (ltI s2.1 (addI .i64 1 (bitsOp .and .i64 (nthI x1 s1.1) 3))) then (
    (gVp8Plain).bind fun r1 =>
    ((
      need (NonZ 3) <|
      bif (eqI (remI s1.1 3) 0) then (
        some (.go 0)
      ) else (
        some (.go 1)
      )
      : Option (Fl Int (Fl (Int × List Antiphonref03Packet) (Fl (List Antiphonref03Packet) (Fl (Int × List Antiphonref03Packet) (Fl (List Antiphonref03Packet) (List Antiphonref03Packet))))))).bind fun f => flC f fun (v3 : Int) =>
      ((gVp8DescText (Antiphonref04Desc.mk r1.fNonRef (eqI s2.1 0) r1.fPart r1.fPicture r1.fWide r1.fLevel r1.fLayer r1.fSync r1.fKey))).bind fun r2 =>
      need (CatB r2 (strOfNums [v3, (cvtI .u8 s1.1), (cvtI .u8 s2.1)])) <|
      need (AppB (lenL s2.2) 1 88) <|
      some (.go ((addI .i64 s2.1 1), (appL s2.2 [(Antiphonref03Packet.mk (eqI s2.1 (subI .i64 (addI .i64 1 (bitsOp .and .i64 (nthI x1 s1.1) 3)) 1)) 96 (addI .u16 x0 (cvtI .u16 (lenL s2.2))) (cvtI .u32 (mulI .i64 3000 s1.1)) 7 [] false 0 ⟨#[]⟩ (catS r2 (strOfNums [v3, (cvtI .u8 s1.1), (cvtI .u8 s2.1)])) 0)])))
    )
  ) else (
    some (.out (.go s2.2))
  )

noncomputable def gLaw11Stream.loop1 (x0 : Int) (x1 : List Int) (s1 : Int × List Antiphonref03Packet) : Option (Fl (Int × List Antiphonref03Packet) (Fl (List Antiphonref03Packet) (List Antiphonref03Packet))) :=
  bif (pickB (ltI s1.1 (lenL x1)) (ltI (lenL s1.2) 56) false) then (
    need (InB s1.1 (lenL x1)) <|
    ((loopF (gLaw11Stream.loop2 x0 x1 s1) (0, s1.2)).bind fun f => flC f fun (v2 : List Antiphonref03Packet) =>
      some (.go ((addI .i64 s1.1 1), v2))
    )
  ) else (
    some (.out (.go s1.2))
  )

noncomputable def gLaw11Stream (x0 : Int) (x1 : List Int) : Option (List Antiphonref03Packet) :=
  ((loopF (gLaw11Stream.loop1 x0 x1) (0, [])).bind fun f => flC f fun (v1 : List Antiphonref03Packet) =>
    some v1
  )

noncomputable def gLaw11Config (x0 : Bool) (x1 : Int) (x2 : Int) (x3 : Int) : Option IngressConfig :=
  need (NonZ 40) <|
  some (IngressConfig.mk (ReorderConfig.mk (addI .i64 1 (remI (bitsOp .and .i64 x1 255) 40)) (bitsOp .and .i64 x2 31)) (FrameConfig.mk x0 400 (addI .i64 1 (bitsOp .and .i64 x3 7)) (bitsOp .and .i64 x2 31)))

noncomputable def gLaw11Begin (x0 : IngressConfig) : Option (Option IngressSource × Antiphonref11Source × Bool) :=
  ((gIngressNew x0)).bind fun r1 =>
  optC r1.1 (
    some (none, (Antiphonref11Source.mk (Antiphonref08Seq.mk false 0 (-1) 0 0) (-1) (Antiphonref09Buffer.mk x0.fOrder.fMost x0.fOrder.fWait false 0 [] 0) (Antiphonref10Maker.mk x0.fFrame.fVideo x0.fFrame.fBytes x0.fFrame.fUnits x0.fFrame.fWait [] 0 0) [] 0 0), (pickB (eqI r1.2 0) false false))
  ) fun o1 => (
    some ((some o1), (Antiphonref11Source.mk (Antiphonref08Seq.mk false 0 (-1) 0 0) (-1) (Antiphonref09Buffer.mk x0.fOrder.fMost x0.fOrder.fWait false 0 [] 0) (Antiphonref10Maker.mk x0.fFrame.fVideo x0.fFrame.fBytes x0.fFrame.fUnits x0.fFrame.fWait [] 0 0) [] 0 0), (pickB (eqI r1.2 0) true false))
  )

noncomputable def gLaw11Same.loop2 (x0 : List FrameFrame) (x1 : List (List Antiphonref10Unit)) (s1 : Int) (s2 : Int) : Option (Fl Int (Fl Unit (Fl Int (Fl Unit Int)))) :=
  bif (ltI s2 (lenL (nthI x1 s1))) then (
    need (InB s1 (lenL x0)) <|
    need (InB s2 (lenL ((nthI x0 s1).fUnits))) <|
    need (InB s1 (lenL x1)) <|
    need (InB s2 (lenL (nthI x1 s1))) <|
    bif (notB (pickB (eqI ((nthI ((nthI x0 s1).fUnits) s2).fAt) ((nthI (nthI x1 s1) s2).fAt)) (pickB (eqI ((nthI ((nthI x0 s1).fUnits) s2).fTime) ((nthI (nthI x1 s1) s2).fTime)) (pickB (eqB ((nthI ((nthI x0 s1).fUnits) s2).fMarker) ((nthI (nthI x1 s1) s2).fMarker)) (pickB (eqB ((nthI ((nthI x0 s1).fUnits) s2).fStart) ((nthI (nthI x1 s1) s2).fStart)) (pickB (eqB ((nthI ((nthI x0 s1).fUnits) s2).fKey) ((nthI (nthI x1 s1) s2).fKey)) (pickB (eqS ((nthI ((nthI x0 s1).fUnits) s2).fText) ((nthI (nthI x1 s1) s2).fText)) (eqI ((nthI ((nthI x0 s1).fUnits) s2).fTick) ((nthI (nthI x1 s1) s2).fTick)) false) false) false) false) false) false)) then (
      some (.out (.out (.out (.out (-1)))))
    ) else (
      some (.go (addI .i64 s2 1))
    )
  ) else (
    some (.out (.go ()))
  )

noncomputable def gLaw11Same.loop1 (x0 : List FrameFrame) (x1 : List (List Antiphonref10Unit)) (s1 : Int) : Option (Fl Int (Fl Unit Int)) :=
  bif (ltI s1 (lenL x1)) then (
    need (InB s1 (lenL x0)) <|
    need (InB s1 (lenL x1)) <|
    bif (neI (lenL ((nthI x0 s1).fUnits)) (lenL (nthI x1 s1))) then (
      some (.out (.out (-1)))
    ) else (
      need (InB s1 (lenL x1)) <|
      ((loopF (gLaw11Same.loop2 x0 x1 s1) 0).bind fun f => flC f fun (v2 : Unit) =>
        some (.go (addI .i64 s1 1))
      )
    )
  ) else (
    some (.out (.go ()))
  )

noncomputable def gLaw11Same (x0 : List FrameFrame) (x1 : List (List Antiphonref10Unit)) : Option Int :=
  bif (neI (lenL x0) (lenL x1)) then (
    some (-1)
  ) else (
    ((loopF (gLaw11Same.loop1 x0 x1) 0).bind fun f => flC f fun (v1 : Unit) =>
      some 0
    )
  )

noncomputable def gLaw11Awake : Option Bool :=
  ((gLaw11Config true 9 9 9)).bind fun r1 =>
  ((gIngressNew r1)).bind fun r2 =>
  optC r2.1 (
    bif (pickB (neI r2.2 0) true true) then (
      some false
    ) else (
      none
    )
  ) fun o1 => (
    bif (pickB (pickB (neI r2.2 0) true false) true false) then (
      some false
    ) else (
      ((gLaw11Stream 5 [1])).bind fun r3 =>
      need (InB 0 (lenL r3)) <|
      ((gIngressSourcePut o1 (nthI r3 0) 0)).bind fun r4 =>
      need (InB 1 (lenL r3)) <|
      ((gIngressSourcePut r4.2.2 (nthI r3 1) 0)).bind fun r5 =>
      need (InB 0 (lenL r3)) <|
      ((gIngressSourcePut r5.2.2 (nthI r3 0) 0)).bind fun r6 =>
      need (Under (pickB (pickB (pickB (eqI (lenL r4.1) 0) (eqI r4.2.1 0) false) (eqI r5.2.1 0) false) (eqI (lenL r5.1) 1) false) true (InB 0 (lenL r5.1))) <|
      need (Under (pickB (pickB (pickB (eqI (lenL r4.1) 0) (eqI r4.2.1 0) false) (eqI r5.2.1 0) false) (eqI (lenL r5.1) 1) false) true ((gFrameFrameKey (nthI r5.1 0)).isSome = true)) <|
      need (Under (pickB (pickB (pickB (pickB (eqI (lenL r4.1) 0) (eqI r4.2.1 0) false) (eqI r5.2.1 0) false) (eqI (lenL r5.1) 1) false) ((gFrameFrameKey (nthI r5.1 0)).getD dflt) false) true (InB 0 (lenL r5.1))) <|
      need (Under (pickB (pickB (pickB (pickB (pickB (pickB (eqI (lenL r4.1) 0) (eqI r4.2.1 0) false) (eqI r5.2.1 0) false) (eqI (lenL r5.1) 1) false) ((gFrameFrameKey (nthI r5.1 0)).getD dflt) false) (eqI (lenL ((nthI r5.1 0).fUnits)) 2) false) (eqI r6.2.1 13) false) true ((gIngressSourceBad r6.2.2).isSome = true)) <|
      some (pickB (pickB (pickB (pickB (pickB (pickB (pickB (eqI (lenL r4.1) 0) (eqI r4.2.1 0) false) (eqI r5.2.1 0) false) (eqI (lenL r5.1) 1) false) ((gFrameFrameKey (nthI r5.1 0)).getD dflt) false) (eqI (lenL ((nthI r5.1 0).fUnits)) 2) false) (eqI r6.2.1 13) false) (eqI ((gIngressSourceBad r6.2.2).getD dflt) 1) false)
    )
  )
end Go.Proofs
end
section
namespace Go.Proofs
open Go.Ab

theorem pb (s : ByteArray) (e : Int) {p : Int → Prop} (h : ∀ n : Fin 256, p (n.val : Int)) : p (u8P s e).1 := byteD h (u8P_r s e).1 (u8P_r s e).2

theorem p64 (s : ByteArray) (e : Int) : cvtI .i64 (u8P s e).1 = (u8P s e).1 := by
  have := u8P_r s e
  exact wrap64_of (by omega) (by omega)
set_option maxRecDepth 100000 in
theorem pA32 (s : ByteArray) (e : Int) : eqI (remI (quoI .u64 (u8P s e).1 32) 2) 1 = ltI 0 (bitsOp .and .u8 (u8P s e).1 32) := pb s e (p := fun b => eqI (remI (quoI .u64 b 32) 2) 1 = ltI 0 (bitsOp .and .u8 b 32)) (by decide)
set_option maxRecDepth 100000 in
theorem pA16 (s : ByteArray) (e : Int) : eqI (remI (quoI .u64 (u8P s e).1 16) 2) 1 = ltI 0 (bitsOp .and .u8 (u8P s e).1 16) := pb s e (p := fun b => eqI (remI (quoI .u64 b 16) 2) 1 = ltI 0 (bitsOp .and .u8 b 16)) (by decide)
set_option maxRecDepth 100000 in
theorem pA8 (s : ByteArray) (e : Int) : cvtI .i64 (remI (u8P s e).1 8) = cvtI .i64 (bitsOp .and .u8 (u8P s e).1 7) := pb s e (p := fun b => cvtI .i64 (remI b 8) = cvtI .i64 (bitsOp .and .u8 b 7)) (by decide)
set_option maxRecDepth 100000 in
theorem pB128 (s : ByteArray) (e : Int) : eqI (quoI .i64 (u8P s e).1 128) 1 = ltI 0 (bitsOp .and .u8 (u8P s e).1 128) := pb s e (p := fun b => eqI (quoI .i64 b 128) 1 = ltI 0 (bitsOp .and .u8 b 128)) (by decide)
set_option maxRecDepth 100000 in
theorem pB64 (s : ByteArray) (e : Int) : eqI (remI (quoI .i64 (u8P s e).1 64) 2) 1 = ltI 0 (bitsOp .and .u8 (u8P s e).1 64) := pb s e (p := fun b => eqI (remI (quoI .i64 b 64) 2) 1 = ltI 0 (bitsOp .and .u8 b 64)) (by decide)
set_option maxRecDepth 100000 in
theorem pB48 (s : ByteArray) (e : Int) : ltI 0 (remI (quoI .i64 (u8P s e).1 16) 4) = ltI 0 (bitsOp .and .u8 (u8P s e).1 48) := pb s e (p := fun b => ltI 0 (remI (quoI .i64 b 16) 4) = ltI 0 (bitsOp .and .u8 b 48)) (by decide)
set_option maxRecDepth 100000 in
theorem pB32 (s : ByteArray) (e : Int) : eqI (remI (quoI .i64 (u8P s e).1 32) 2) 1 = ltI 0 (bitsOp .and .u8 (u8P s e).1 32) := pb s e (p := fun b => eqI (remI (quoI .i64 b 32) 2) 1 = ltI 0 (bitsOp .and .u8 b 32)) (by decide)
set_option maxRecDepth 100000 in
theorem pB16 (s : ByteArray) (e : Int) : eqI (remI (quoI .i64 (u8P s e).1 16) 2) 1 = ltI 0 (bitsOp .and .u8 (u8P s e).1 16) := pb s e (p := fun b => eqI (remI (quoI .i64 b 16) 2) 1 = ltI 0 (bitsOp .and .u8 b 16)) (by decide)
set_option maxRecDepth 100000 in
theorem pC64 (s : ByteArray) (e : Int) : cvtI .i64 (quoI .u64 (u8P s e).1 64) = cvtI .i64 (shrI .u8 (u8P s e).1 6) := pb s e (p := fun b => cvtI .i64 (quoI .u64 b 64) = cvtI .i64 (shrI .u8 b 6)) (by decide)
set_option maxRecDepth 100000 in
theorem pC31 (s : ByteArray) (e : Int) : cvtI .i64 (remI (u8P s e).1 32) = cvtI .i64 (bitsOp .and .u8 (u8P s e).1 31) := pb s e (p := fun b => cvtI .i64 (remI b 32) = cvtI .i64 (bitsOp .and .u8 b 31)) (by decide)

theorem picS (s t : ByteArray) (e f : Int) (h : ltI 127 (u8P s e).1 = true) :
    bitsOp .or .i64 (shlI .i64 (bitsOp .and .i64 (u8P s e).1 127) 8) (u8P t f).1 = addI .i64 (mulI .i64 (cvtI .i64 (subI .u64 (u8P s e).1 128)) 256) (u8P t f).1 := by
  have h' : 127 < (u8P s e).1 := by rw [ltI_d] at h; simpa using h
  have r1 := u8P_r s e
  have r2 := u8P_r t f
  generalize (u8P s e).1 = n at *
  generalize (u8P t f).1 = m at *
  have a1 : bitsOp .and .i64 n 127 = n % 128 := and_mask' (j := 7) (by omega) n 127 rfl
  have a2 : shlI .i64 (n % 128) 8 = (n % 128) * 256 := by
    show IntKind.i64.wrap ((n % 128) * 256) = _
    exact wrap64_of (by omega) (by omega)
  have a3 : subI .u64 n 128 = n - 128 := by unfold subI; rw [wrapU64]; omega
  have a4 : cvtI .i64 (n - 128) = n - 128 := wrap64_of (by omega) (by omega)
  have a5 : mulI .i64 (n - 128) 256 = (n - 128) * 256 := mulI_n (by omega) (by omega)
  rw [a1, a2, a3, a4, a5, addI_n (by omega) (by omega)]
  rw [or_add (j := 8) (by omega) (by show _ % 256 = 0; omega) r2.1 (by show m < 256; omega) (by omega)]
  omega

theorem nz {n : Int} (h : n ≠ 0) : NonZ n := h
theorem rbytes_rest (s : ByteArray) : gOctetReaderRest ⟨s, 0⟩ = some (cutS s 0 (lenS s), ⟨cutS s (lenS s) (lenS s), 0⟩) := by
  have hl : 0 ≤ lenS s := by unfold lenS; omega
  unfold gOctetReaderRest gOctetReaderLen gOctetReaderBytes
  dsimp only
  rw [bind_so, show neI 0 0 = false from rfl, cond_false, ltI_d, ltI_d, decide_eq_false (by omega), cond_false, decide_eq_false (by omega), cond_false, need_t ⟨by omega, by omega, by omega⟩, need_t ⟨by omega, by omega, by omega⟩]
  rfl
theorem cut_all (s : ByteArray) : cutS s 0 (lenS s) = s := by
  unfold cutS lenS
  simp [ByteArray.extract_zero_size]

theorem fin_eq (t : ByteArray) (e : Int) (d : Antiphonref04Desc) : ((gOctetReaderErr ⟨t, e⟩).bind fun r8 =>
      bif neI r8 0 then some ((Antiphonref04Desc.mk false false 0 0 false 0 0 false 0), (⟨#[]⟩ : ByteArray), r8)
      else (gOctetReaderRest ⟨t, e⟩).bind fun r9 => some (d, r9.1, 0)) =
    bif neI e 0 then some ((Antiphonref04Desc.mk false false 0 0 false 0 0 false 0), (⟨#[]⟩ : ByteArray), e) else some (d, t, 0) := by
  unfold gOctetReaderErr
  rw [bind_so]
  by_cases he : e = 0
  · subst he
    rw [rbytes_rest, bind_so, cut_all]
  · rw [neI_d, decide_eq_true he]; rfl

theorem z128 : ltI 0 (bitsOp .and .u8 0 128) = false := by decide
theorem z64 : ltI 0 (bitsOp .and .u8 0 64) = false := by decide
theorem z48 : ltI 0 (bitsOp .and .u8 0 48) = false := by decide
theorem y128 : eqI (quoI .i64 0 128) 1 = false := by decide
theorem y64 : eqI (remI (quoI .i64 0 64) 2) 1 = false := by decide
theorem y48 : ltI 0 (remI (quoI .i64 0 16) 4) = false := by decide

set_option maxHeartbeats 4000000 in
theorem parse_eq (s : ByteArray) : gVp8Parse s = gRef04Parse s := by
  unfold gVp8Parse gRef04Parse gOctetRead gVp8Plain
  simp only [bind_so, ou8, rtake, need_t (nz (show (32 : Int) ≠ 0 by decide)), need_t (nz (show (2 : Int) ≠ 0 by decide)), need_t (nz (show (16 : Int) ≠ 0 by decide)), need_t (nz (show (8 : Int) ≠ 0 by decide)),
    pA32, pA16, pA8]
  cases h1 : ltI 127 (u8P s 0).1
  all_goals simp only [cond_true, cond_false, bind_so, flC_go, ou8, rtake, p64]
  all_goals unfold gRef04Last gRef04Numbers
  all_goals simp only [need_t (nz (show (128 : Int) ≠ 0 by decide)), need_t (nz (show (64 : Int) ≠ 0 by decide)), need_t (nz (show (32 : Int) ≠ 0 by decide)), need_t (nz (show (2 : Int) ≠ 0 by decide)), need_t (nz (show (16 : Int) ≠ 0 by decide)), need_t (nz (show (4 : Int) ≠ 0 by decide)),
    need_t (show NonN 8 by decide), need_t (show NonN 6 by decide), pB128, pB64, pB48, pB32, pB16, gVp8DescPicture, bind_so, ou8, rtake, p64]
  · simp only [z128, z64, z48, y128, y64, y48, cond_false, bind_so, flC_go, fin_eq]
  · generalize (u8P s 0).2.1 = t1
    generalize (u8P s 0).2.2 = e1
    cases h2 : ltI 0 (bitsOp .and .u8 (u8P t1 e1).1 128) <;> cases h3 : ltI 127 (u8P (u8P t1 e1).2.1 (u8P t1 e1).2.2).1
    all_goals try rw [picS _ _ _ _ h3]
    all_goals simp only [cond_true, cond_false, bind_so, flC_go, ou8, rtake, p64]
    all_goals (
      cases h4 : ltI 0 (bitsOp .and .u8 (u8P t1 e1).1 64) <;> simp only [cond_true, cond_false, bind_so, flC_go, ou8, rtake, p64] <;>
      cases h5 : ltI 0 (bitsOp .and .u8 (u8P t1 e1).1 48) <;> simp only [cond_true, cond_false, bind_so, flC_go, ou8, rtake, p64, fin_eq, pA32, pC64, pC31] <;>
      cases h6 : ltI 0 (bitsOp .and .u8 (u8P t1 e1).1 32) <;> simp only [cond_true, cond_false, bind_so, flC_go, ou8, rtake, p64, fin_eq] <;>
      cases h7 : ltI 0 (bitsOp .and .u8 (u8P t1 e1).1 16) <;> simp only [cond_true, cond_false, bind_so, flC_go, ou8, rtake, p64, fin_eq])
end Go.Proofs
end

/- What these functions compute, as plain functions. No condition. -/
import Derived.Test.YtbijdlgffebenaaTs
import Derived.Test.YtbijdlgffebenaaOxD
import Derived.Test.YtbijdlgffebenaaM11
import Derived.Test.YtbijdlgffebenaaM01
section
namespace Go.Proofs
open Go.Ab
noncomputable def gLaw11Stream.loop2 (x0 : Int) (x1 : List Int) (s1 : Int × List Antiphonref03Packet) (s2 : Int × List Antiphonref03Packet) : Option (Fl (Int × List Antiphonref03Packet) (Fl (List Antiphonref03Packet) (Fl (Int × List Antiphonref03Packet) (Fl (List Antiphonref03Packet) (List Antiphonref03Packet))))) :=
  bif (ltI s2.1 (addI .i64 1 (bitsOp .and .i64 (nthI x1 s1.1) 3))) then (
    (gVp8Plain).bind fun r1 =>
    ((
      need (NonZ 3) <|
      bif (eqI (remI s1.1 3) 0) then (
        some (.go 0)
      ) else (
        some (.go 1)
      )
      : Option (Fl Int (Fl (Int × List Antiphonref03Packet) (Fl (List Antiphonref03Packet) (Fl (Int × List Antiphonref03Packet) (Fl (List Antiphonref03Packet) (List Antiphonref03Packet))))))).bind fun f => flC f fun (v3 : Int) =>
      ((gVp8DescText (Antiphonref04Desc.mk r1.fNonRef (eqI s2.1 0) r1.fPart r1.fPicture r1.fWide r1.fLevel r1.fLayer r1.fSync r1.fKey))).bind fun r2 =>
      need (CatB r2 (strOfNums [v3, (cvtI .u8 s1.1), (cvtI .u8 s2.1)])) <|
      need (AppB (lenL s2.2) 1 88) <|
      some (.go ((addI .i64 s2.1 1), (appL s2.2 [(Antiphonref03Packet.mk (eqI s2.1 (subI .i64 (addI .i64 1 (bitsOp .and .i64 (nthI x1 s1.1) 3)) 1)) 96 (addI .u16 x0 (cvtI .u16 (lenL s2.2))) (cvtI .u32 (mulI .i64 3000 s1.1)) 7 [] false 0 ⟨#[]⟩ (catS r2 (strOfNums [v3, (cvtI .u8 s1.1), (cvtI .u8 s2.1)])) 0)])))
    )
  ) else (
    some (.out (.go s2.2))
  )

noncomputable def gLaw11Stream.loop1 (x0 : Int) (x1 : List Int) (s1 : Int × List Antiphonref03Packet) : Option (Fl (Int × List Antiphonref03Packet) (Fl (List Antiphonref03Packet) (List Antiphonref03Packet))) :=
  bif (pickB (ltI s1.1 (lenL x1)) (ltI (lenL s1.2) 56) false) then (
    need (InB s1.1 (lenL x1)) <|
    ((loopF (gLaw11Stream.loop2 x0 x1 s1) (0, s1.2)).bind fun f => flC f fun (v2 : List Antiphonref03Packet) =>
      some (.go ((addI .i64 s1.1 1), v2))
    )
  ) else (
    some (.out (.go s1.2))
  )

noncomputable def gLaw11Stream (x0 : Int) (x1 : List Int) : Option (List Antiphonref03Packet) :=
  ((loopF (gLaw11Stream.loop1 x0 x1) (0, [])).bind fun f => flC f fun (v1 : List Antiphonref03Packet) =>
    some v1
  )

noncomputable def gLaw11Config (x0 : Bool) (x1 : Int) (x2 : Int) (x3 : Int) : Option IngressConfig :=
  need (NonZ 40) <|
  some (IngressConfig.mk (ReorderConfig.mk (addI .i64 1 (remI (bitsOp .and .i64 x1 255) 40)) (bitsOp .and .i64 x2 31)) (FrameConfig.mk x0 400 (addI .i64 1 (bitsOp .and .i64 x3 7)) (bitsOp .and .i64 x2 31)))

noncomputable def gLaw11Begin (x0 : IngressConfig) : Option (Option IngressSource × Antiphonref11Source × Bool) :=
  ((gIngressNew x0)).bind fun r1 =>
  optC r1.1 (
    some (none, (Antiphonref11Source.mk (Antiphonref08Seq.mk false 0 (-1) 0 0) (-1) (Antiphonref09Buffer.mk x0.fOrder.fMost x0.fOrder.fWait false 0 [] 0) (Antiphonref10Maker.mk x0.fFrame.fVideo x0.fFrame.fBytes x0.fFrame.fUnits x0.fFrame.fWait [] 0 0) [] 0 0), (pickB (eqI r1.2 0) false false))
  ) fun o1 => (
    some ((some o1), (Antiphonref11Source.mk (Antiphonref08Seq.mk false 0 (-1) 0 0) (-1) (Antiphonref09Buffer.mk x0.fOrder.fMost x0.fOrder.fWait false 0 [] 0) (Antiphonref10Maker.mk x0.fFrame.fVideo x0.fFrame.fBytes x0.fFrame.fUnits x0.fFrame.fWait [] 0 0) [] 0 0), (pickB (eqI r1.2 0) true false))
  )

noncomputable def gLaw11Same.loop2 (x0 : List FrameFrame) (x1 : List (List Antiphonref10Unit)) (s1 : Int) (s2 : Int) : Option (Fl Int (Fl Unit (Fl Int (Fl Unit Int)))) :=
  bif (ltI s2 (lenL (nthI x1 s1))) then (
    need (InB s1 (lenL x0)) <|
    need (InB s2 (lenL ((nthI x0 s1).fUnits))) <|
    need (InB s1 (lenL x1)) <|
    need (InB s2 (lenL (nthI x1 s1))) <|
    bif (notB (pickB (eqI ((nthI ((nthI x0 s1).fUnits) s2).fAt) ((nthI (nthI x1 s1) s2).fAt)) (pickB (eqI ((nthI ((nthI x0 s1).fUnits) s2).fTime) ((nthI (nthI x1 s1) s2).fTime)) (pickB (eqB ((nthI ((nthI x0 s1).fUnits) s2).fMarker) ((nthI (nthI x1 s1) s2).fMarker)) (pickB (eqB ((nthI ((nthI x0 s1).fUnits) s2).fStart) ((nthI (nthI x1 s1) s2).fStart)) (pickB (eqB ((nthI ((nthI x0 s1).fUnits) s2).fKey) ((nthI (nthI x1 s1) s2).fKey)) (pickB (eqS ((nthI ((nthI x0 s1).fUnits) s2).fText) ((nthI (nthI x1 s1) s2).fText)) (eqI ((nthI ((nthI x0 s1).fUnits) s2).fTick) ((nthI (nthI x1 s1) s2).fTick)) false) false) false) false) false) false)) then (
      some (.out (.out (.out (.out (-1)))))
    ) else (
      some (.go (addI .i64 s2 1))
    )
  ) else (
    some (.out (.go ()))
  )

noncomputable def gLaw11Same.loop1 (x0 : List FrameFrame) (x1 : List (List Antiphonref10Unit)) (s1 : Int) : Option (Fl Int (Fl Unit Int)) :=
  bif (ltI s1 (lenL x1)) then (
    need (InB s1 (lenL x0)) <|
    need (InB s1 (lenL x1)) <|
    bif (neI (lenL ((nthI x0 s1).fUnits)) (lenL (nthI x1 s1))) then (
      some (.out (.out (-1)))
    ) else (
      need (InB s1 (lenL x1)) <|
      ((loopF (gLaw11Same.loop2 x0 x1 s1) 0).bind fun f => flC f fun (_v2 : Unit) =>
        some (.go (addI .i64 s1 1))
      )
    )
  ) else (
    some (.out (.go ()))
  )

noncomputable def gLaw11Same (x0 : List FrameFrame) (x1 : List (List Antiphonref10Unit)) : Option Int :=
  bif (neI (lenL x0) (lenL x1)) then (
    some (-1)
  ) else (
    ((loopF (gLaw11Same.loop1 x0 x1) 0).bind fun f => flC f fun (_v1 : Unit) =>
      some 0
    )
  )

noncomputable def gLaw11Awake : Option Bool :=
  ((gLaw11Config true 9 9 9)).bind fun r1 =>
  ((gIngressNew r1)).bind fun r2 =>
  optC r2.1 (
    bif (pickB (neI r2.2 0) true true) then (
      some false
    ) else (
      none
    )
  ) fun o1 => (
    bif (pickB (pickB (neI r2.2 0) true false) true false) then (
      some false
    ) else (
      ((gLaw11Stream 5 [1])).bind fun r3 =>
      need (InB 0 (lenL r3)) <|
      ((gIngressSourcePut o1 (nthI r3 0) 0)).bind fun r4 =>
      need (InB 1 (lenL r3)) <|
      ((gIngressSourcePut r4.2.2 (nthI r3 1) 0)).bind fun r5 =>
      need (InB 0 (lenL r3)) <|
      ((gIngressSourcePut r5.2.2 (nthI r3 0) 0)).bind fun r6 =>
      need (Under (pickB (pickB (pickB (eqI (lenL r4.1) 0) (eqI r4.2.1 0) false) (eqI r5.2.1 0) false) (eqI (lenL r5.1) 1) false) true (InB 0 (lenL r5.1))) <|
      need (Under (pickB (pickB (pickB (eqI (lenL r4.1) 0) (eqI r4.2.1 0) false) (eqI r5.2.1 0) false) (eqI (lenL r5.1) 1) false) true ((gFrameFrameKey (nthI r5.1 0)).isSome = true)) <|
      need (Under (pickB (pickB (pickB (pickB (eqI (lenL r4.1) 0) (eqI r4.2.1 0) false) (eqI r5.2.1 0) false) (eqI (lenL r5.1) 1) false) ((gFrameFrameKey (nthI r5.1 0)).getD dflt) false) true (InB 0 (lenL r5.1))) <|
      need (Under (pickB (pickB (pickB (pickB (pickB (pickB (eqI (lenL r4.1) 0) (eqI r4.2.1 0) false) (eqI r5.2.1 0) false) (eqI (lenL r5.1) 1) false) ((gFrameFrameKey (nthI r5.1 0)).getD dflt) false) (eqI (lenL ((nthI r5.1 0).fUnits)) 2) false) (eqI r6.2.1 13) false) true ((gIngressSourceBad r6.2.2).isSome = true)) <|
      some (pickB (pickB (pickB (pickB (pickB (pickB (pickB (eqI (lenL r4.1) 0) (eqI r4.2.1 0) false) (eqI r5.2.1 0) false) (eqI (lenL r5.1) 1) false) ((gFrameFrameKey (nthI r5.1 0)).getD dflt) false) (eqI (lenL ((nthI r5.1 0).fUnits)) 2) false) (eqI r6.2.1 13) false) (eqI ((gIngressSourceBad r6.2.2).getD dflt) 1) false)
    )
  )
end Go.Proofs
end
section
namespace Go.Proofs
open Go.Ab
noncomputable def gRef09Run.loop1  (s1 : Nat × List Antiphonref09Thing × Antiphonref09Buffer) : Option (Fl (Nat × List Antiphonref09Thing × Antiphonref09Buffer) (Fl (Nat × List Antiphonref09Thing × Antiphonref09Buffer) (Antiphonref09Buffer × List Antiphonref09Thing × Nat))) :=
  need (Under (ltI 0 (lenL s1.2.2.fL)) true (InB 0 (lenL s1.2.2.fL))) <|
  bif (pickB (ltI 0 (lenL s1.2.2.fL)) (eqI ((nthI s1.2.2.fL 0).fAt) s1.2.2.fNext) false) then (
    need (InB 0 (lenL s1.2.2.fL)) <|
    need (AppB (lenL s1.2.1) 1 32) <|
    need (CutB 1 (lenL s1.2.2.fL) (lenL s1.2.2.fL)) <|
    some (.go ((s1.1 + 1), (appL s1.2.1 [(nthI s1.2.2.fL 0)]), (Antiphonref09Buffer.mk s1.2.2.fMost s1.2.2.fWait s1.2.2.fBegun (addI .i64 s1.2.2.fNext 1) (cutL s1.2.2.fL 1 (lenL s1.2.2.fL)) s1.2.2.fLost)))
  ) else (
    some (.out (.go (s1.1, s1.2.1, s1.2.2)))
  )

noncomputable def gRef09Run (x0 : Antiphonref09Buffer) : Option (Antiphonref09Buffer × List Antiphonref09Thing × Nat) :=
  ((loopF gRef09Run.loop1 (0, [], x0)).bind fun f => flC f fun (v1 : Nat × List Antiphonref09Thing × Antiphonref09Buffer) =>
    some (v1.2.2, v1.2.1, v1.1)
  )

noncomputable def gRef09Skip (x0 : Antiphonref09Buffer) : Option (Antiphonref09Buffer × List Antiphonref09Thing × Nat) :=
  need (InB 0 (lenL x0.fL)) <|
  need (InB 0 (lenL x0.fL)) <|
  ((gRef09Run (Antiphonref09Buffer.mk x0.fMost x0.fWait x0.fBegun ((nthI x0.fL 0).fAt) x0.fL (addI .i64 x0.fLost (subI .i64 ((nthI x0.fL 0).fAt) x0.fNext))))).bind fun r1 =>
  some (r1.1, r1.2.1, r1.2.2)

noncomputable def gRef09With.loop1 (x0 : List Antiphonref09Thing) (x1 : Antiphonref09Thing) (s1 : Int × Bool × List Antiphonref09Thing) : Option (Fl (Int × Bool × List Antiphonref09Thing) (Fl (Bool × List Antiphonref09Thing) (List Antiphonref09Thing))) :=
  bif (ltI s1.1 (lenL x0)) then (
    need (InB s1.1 (lenL x0)) <|
    ((
      bif (pickB (notB s1.2.1) (ltI x1.fAt ((nthI x0 s1.1).fAt)) false) then (
        need (AppB (lenL s1.2.2) 1 32) <|
        some (.go (true, (appL s1.2.2 [x1])))
      ) else (
        some (.go (s1.2.1, s1.2.2))
      )
      : Option (Fl (Bool × List Antiphonref09Thing) (Fl (Int × Bool × List Antiphonref09Thing) (Fl (Bool × List Antiphonref09Thing) (List Antiphonref09Thing))))).bind fun f => flC f fun (v2 : Bool × List Antiphonref09Thing) =>
      need (AppB (lenL v2.2) 1 32) <|
      some (.go ((addI .i64 s1.1 1), v2.1, (appL v2.2 [(nthI x0 s1.1)])))
    )
  ) else (
    some (.out (.go (s1.2.1, s1.2.2)))
  )

noncomputable def gRef09With (x0 : List Antiphonref09Thing) (x1 : Antiphonref09Thing) : Option (List Antiphonref09Thing) :=
  ((loopF (gRef09With.loop1 x0 x1) (0, false, [])).bind fun f => flC f fun (v1 : Bool × List Antiphonref09Thing) =>
    ((
      bif (notB v1.1) then (
        need (AppB (lenL v1.2) 1 32) <|
        some (.go (appL v1.2 [x1]))
      ) else (
        some (.go v1.2)
      )
      : Option (Fl (List Antiphonref09Thing) (List Antiphonref09Thing))).bind fun f => flC f fun (v3 : List Antiphonref09Thing) =>
      some v3
    )
  )

noncomputable def gRef09Put.loop2 (x1 : Antiphonref09Thing) (v1 : Antiphonref09Buffer) (s2 : Int) : Option (Fl Int (Fl Unit (Antiphonref09Buffer × List Antiphonref09Thing × Int))) :=
  bif (ltI s2 (lenL v1.fL)) then (
    need (InB s2 (lenL v1.fL)) <|
    bif (eqI ((nthI v1.fL s2).fAt) x1.fAt) then (
      some (.out (.out (v1, [], 14)))
    ) else (
      some (.go (addI .i64 s2 1))
    )
  ) else (
    some (.out (.go ()))
  )

noncomputable def gRef09Put.loop3  (s3 : List Antiphonref09Thing × Antiphonref09Buffer) : Option (Fl (List Antiphonref09Thing × Antiphonref09Buffer) (Fl (List Antiphonref09Thing × Antiphonref09Buffer) (Antiphonref09Buffer × List Antiphonref09Thing × Int))) :=
  bif (ltI s3.2.fMost (lenL s3.2.fL)) then (
    ((gRef09Skip s3.2)).bind fun r3 =>
    need (AppB (lenL s3.1) (lenL r3.2.1) 32) <|
    some (.go ((appL s3.1 r3.2.1), r3.1))
  ) else (
    some (.out (.go (s3.1, s3.2)))
  )

noncomputable def gRef09Put (x0 : Antiphonref09Buffer) (x1 : Antiphonref09Thing) : Option (Antiphonref09Buffer × List Antiphonref09Thing × Int) :=
  ((
    bif (notB x0.fBegun) then (
      some (.go (Antiphonref09Buffer.mk x0.fMost x0.fWait true x1.fAt x0.fL x0.fLost))
    ) else (
      some (.go x0)
    )
    : Option (Fl Antiphonref09Buffer (Antiphonref09Buffer × List Antiphonref09Thing × Int))).bind fun f => flC f fun (v1 : Antiphonref09Buffer) =>
    bif (ltI x1.fAt v1.fNext) then (
      some (v1, [], 13)
    ) else (
      ((loopF (gRef09Put.loop2 x1 v1) 0).bind fun f => flC f fun (_v2 : Unit) =>
        ((gRef09With v1.fL x1)).bind fun r1 =>
        ((gRef09Run (Antiphonref09Buffer.mk v1.fMost v1.fWait v1.fBegun v1.fNext r1 v1.fLost))).bind fun r2 =>
        ((loopF gRef09Put.loop3 (r2.2.1, r2.1)).bind fun f => flC f fun (v3 : List Antiphonref09Thing × Antiphonref09Buffer) =>
          some (v3.2, v3.1, 0)
        )
      )
    )
  )

noncomputable def gRef09Tick.loop1 (x1 : Int) (s1 : List Antiphonref09Thing × Antiphonref09Buffer) : Option (Fl (List Antiphonref09Thing × Antiphonref09Buffer) (Fl (List Antiphonref09Thing × Antiphonref09Buffer) (Antiphonref09Buffer × List Antiphonref09Thing))) :=
  need (Under (ltI 0 (lenL s1.2.fL)) true (InB 0 (lenL s1.2.fL))) <|
  bif (pickB (ltI 0 (lenL s1.2.fL)) (leqI s1.2.fWait (subI .i64 x1 ((nthI s1.2.fL 0).fTick))) false) then (
    ((gRef09Skip s1.2)).bind fun r1 =>
    need (AppB (lenL s1.1) (lenL r1.2.1) 32) <|
    some (.go ((appL s1.1 r1.2.1), r1.1))
  ) else (
    some (.out (.go (s1.1, s1.2)))
  )

noncomputable def gRef09Tick (x0 : Antiphonref09Buffer) (x1 : Int) : Option (Antiphonref09Buffer × List Antiphonref09Thing) :=
  ((loopF (gRef09Tick.loop1 x1) ([], x0)).bind fun f => flC f fun (v1 : List Antiphonref09Thing × Antiphonref09Buffer) =>
    some (v1.2, v1.1)
  )

noncomputable def gRef09Missing.loop2 (x0 : Antiphonref09Buffer) (x1 : Int) (s1 : Int × Int × List Int) (s2 : Int × List Int) : Option (Fl (Int × List Int) (Fl (List Int) (Fl (Int × Int × List Int) (Fl (List Int) (List Int))))) :=
  bif (pickB (ltI s2.1 ((nthI x0.fL s1.1).fAt)) (ltI (lenL s2.2) x1) false) then (
    need (AppB (lenL s2.2) 1 8) <|
    some (.go ((addI .i64 s2.1 1), (appL s2.2 [s2.1])))
  ) else (
    some (.out (.go s2.2))
  )

noncomputable def gRef09Missing.loop1 (x0 : Antiphonref09Buffer) (x1 : Int) (s1 : Int × Int × List Int) : Option (Fl (Int × Int × List Int) (Fl (List Int) (List Int))) :=
  bif (ltI s1.1 (lenL x0.fL)) then (
    need (InB s1.1 (lenL x0.fL)) <|
    ((loopF (gRef09Missing.loop2 x0 x1 s1) (s1.2.1, s1.2.2)).bind fun f => flC f fun (v2 : List Int) =>
      some (.go ((addI .i64 s1.1 1), (addI .i64 ((nthI x0.fL s1.1).fAt) 1), v2))
    )
  ) else (
    some (.out (.go s1.2.2))
  )

noncomputable def gRef09Missing (x0 : Antiphonref09Buffer) (x1 : Int) : Option (List Int) :=
  ((loopF (gRef09Missing.loop1 x0 x1) (0, x0.fNext, [])).bind fun f => flC f fun (v1 : List Int) =>
    some v1
  )
end Go.Proofs
end

/- What these functions compute, as plain functions. No condition. -/
import Derived.Test.YtbijdlgffebenaaTs
import Derived.Test.YtbijdlgffebenaaM02
import Derived.Test.YtbijdlgffebenaaM11
import Derived.Test.YtbijdlgffebenaaM04
import Derived.Test.YtbijdlgffebenaaM05
import Derived.Test.YtbijdlgffebenaaM12
import Derived.Test.YtbijdlgffebenaaM08
import Derived.Test.YtbijdlgffebenaaM07
section
namespace Go.Proofs
open Go.Ab
noncomputable def gRef11Key (x0 : Antiphonref04Desc) (x1 : ByteArray) : Option Bool :=
  need (Under (pickB (pickB x0.fStart (eqI x0.fPart 0) false) (ltI 0 (lenS x1)) false) true (InB 0 (lenS x1))) <|
  need (Under (pickB (pickB x0.fStart (eqI x0.fPart 0) false) (ltI 0 (lenS x1)) false) true (NonZ 2)) <|
  some (pickB (pickB (pickB x0.fStart (eqI x0.fPart 0) false) (ltI 0 (lenS x1)) false) (eqI (remI (idxS x1 0) 2) 0) false)

noncomputable def gRef11Find.loop1 (x0 : List Antiphonref11Came) (x1 : Int) (s1 : Int) : Option (Fl Int (Fl Unit Antiphonref03Packet)) :=
  bif (ltI s1 (lenL x0)) then (
    need (InB s1 (lenL x0)) <|
    bif (eqI ((nthI x0 s1).fAt) x1) then (
      some (.out (.out ((nthI x0 s1).fP)))
    ) else (
      some (.go (addI .i64 s1 1))
    )
  ) else (
    some (.out (.go ()))
  )

noncomputable def gRef11Find (x0 : List Antiphonref11Came) (x1 : Int) : Option Antiphonref03Packet :=
  ((loopF (gRef11Find.loop1 x0 x1) 0).bind fun f => flC f fun (v1 : Unit) =>
    some (Antiphonref03Packet.mk false 0 0 0 0 [] false 0 ⟨#[]⟩ ⟨#[]⟩ 0)
  )

noncomputable def gRef11Unit (x0 : Antiphonref11Source) (x1 : Antiphonref09Thing) : Option (Antiphonref11Source × Antiphonref10Unit) :=
  ((gRef11Find x0.fL x1.fAt)).bind fun r1 =>
  ((gRef08Time x0.fClock (cvtI .i64 r1.fTime))).bind fun r2 =>
  ((gRef04Parse r1.fPayload)).bind fun r3 =>
  ((
    bif (pickB x0.fMaker.fVideo (eqI r3.2.2 0) false) then (
      ((gRef11Key r3.1 r3.2.1)).bind fun r4 =>
      some (.go (Antiphonref10Unit.mk x1.fAt r2.2 (pickB r1.fMarker (neS r1.fPayload ⟨#[]⟩) false) (pickB r3.1.fStart (eqI r3.1.fPart 0) false) r4 r1.fPayload x1.fTick))
    ) else (
      some (.go (Antiphonref10Unit.mk x1.fAt r2.2 (pickB r1.fMarker (neS r1.fPayload ⟨#[]⟩) false) false false r1.fPayload x1.fTick))
    )
    : Option (Fl Antiphonref10Unit (Antiphonref11Source × Antiphonref10Unit))).bind fun f => flC f fun (v1 : Antiphonref10Unit) =>
    some ((Antiphonref11Source.mk x0.fSeq r2.1 x0.fOrder x0.fMaker x0.fL x0.fBad x0.fKeys), v1)
  )

noncomputable def gRef11Frames.loop1 (x1 : List Antiphonref09Thing) (s1 : Int × List (List Antiphonref10Unit) × Antiphonref11Source) : Option (Fl (Int × List (List Antiphonref10Unit) × Antiphonref11Source) (Fl (List (List Antiphonref10Unit) × Antiphonref11Source) (Antiphonref11Source × List (List Antiphonref10Unit)))) :=
  bif (ltI s1.1 (lenL x1)) then (
    need (InB s1.1 (lenL x1)) <|
    ((gRef11Unit s1.2.2 (nthI x1 s1.1))).bind fun r1 =>
    ((gRef10Put r1.1.fMaker r1.2)).bind fun r2 =>
    bif (ltI 0 (lenL r2.2)) then (
      need (AppB (lenL s1.2.1) 1 24) <|
      need (InB 0 (lenL r2.2)) <|
      bif (nthI r2.2 0).fKey then (
        some (.go ((addI .i64 s1.1 1), (appL s1.2.1 [r2.2]), (Antiphonref11Source.mk r1.1.fSeq r1.1.fClock r1.1.fOrder r2.1 r1.1.fL r1.1.fBad (addI .i64 r1.1.fKeys 1))))
      ) else (
        some (.go ((addI .i64 s1.1 1), (appL s1.2.1 [r2.2]), (Antiphonref11Source.mk r1.1.fSeq r1.1.fClock r1.1.fOrder r2.1 r1.1.fL r1.1.fBad r1.1.fKeys)))
      )
    ) else (
      some (.go ((addI .i64 s1.1 1), s1.2.1, (Antiphonref11Source.mk r1.1.fSeq r1.1.fClock r1.1.fOrder r2.1 r1.1.fL r1.1.fBad r1.1.fKeys)))
    )
  ) else (
    some (.out (.go (s1.2.1, s1.2.2)))
  )

noncomputable def gRef11Frames (x0 : Antiphonref11Source) (x1 : List Antiphonref09Thing) : Option (Antiphonref11Source × List (List Antiphonref10Unit)) :=
  ((loopF (gRef11Frames.loop1 x1) (0, [], x0)).bind fun f => flC f fun (v1 : List (List Antiphonref10Unit) × Antiphonref11Source) =>
    some (v1.2, v1.1)
  )

noncomputable def gRef11Put (x0 : Antiphonref11Source) (x1 : Antiphonref03Packet) (x2 : Int) : Option (Antiphonref11Source × List (List Antiphonref10Unit) × Int) :=
  ((gRef08Put x0.fSeq (cvtI .i64 x1.fSeq))).bind fun r1 =>
  bif (notB r1.2.2) then (
    some ((Antiphonref11Source.mk r1.1 x0.fClock x0.fOrder x0.fMaker x0.fL (addI .i64 x0.fBad 1) x0.fKeys), [], 13)
  ) else (
    ((gRef09Put x0.fOrder (Antiphonref09Thing.mk r1.2.1 ⟨#[]⟩ x2))).bind fun r2 =>
    bif (neI r2.2.2 0) then (
      some ((Antiphonref11Source.mk r1.1 x0.fClock r2.1 x0.fMaker x0.fL (addI .i64 x0.fBad 1) x0.fKeys), [], r2.2.2)
    ) else (
      need (AppB 0 (lenL x0.fL) 96) <|
      need (AppB (lenL x0.fL) 1 96) <|
      ((gRef11Frames (Antiphonref11Source.mk r1.1 x0.fClock r2.1 x0.fMaker (appL (appL [] x0.fL) [(Antiphonref11Came.mk r1.2.1 x1)]) x0.fBad x0.fKeys) r2.2.1)).bind fun r3 =>
      some (r3.1, r3.2, 0)
    )
  )

noncomputable def gRef11Tick (x0 : Antiphonref11Source) (x1 : Int) : Option (Antiphonref11Source × List (List Antiphonref10Unit)) :=
  ((gRef09Tick x0.fOrder x1)).bind fun r1 =>
  ((gRef11Frames (Antiphonref11Source.mk x0.fSeq x0.fClock r1.1 x0.fMaker x0.fL x0.fBad x0.fKeys) r1.2)).bind fun r2 =>
  ((gRef10Tick r2.1.fMaker x1)).bind fun r3 =>
  some ((Antiphonref11Source.mk r2.1.fSeq r2.1.fClock r2.1.fOrder r3.1 r2.1.fL r2.1.fBad r2.1.fKeys), r2.2)
end Go.Proofs
end
section
namespace Go.Proofs
open Go.Ab
noncomputable def gLaw11IngressSounds.loop1 (x0 : List ByteArray) (s1 : Unit) : Option (Fl Unit (Fl Unit Bool)) :=
  bif (pickB (ltI 0 (lenL x0)) (ltI 0 30) false) then (
    need (InB 0 (lenL x0)) <|
    ((gLaw01Cut (nthI x0 0) 40)).bind fun r4 =>
    none
  ) else (
    some (.out (.go ()))
  )

noncomputable def gLaw11IngressSounds.loop2 (x0 : List ByteArray) (x1 : Int) (s2 : Int × (List (Int × Antiphonref09Thing)) × ReorderConfig × Bool × Int × Int × FrameMaker × (List (Int × Antiphonref03Packet)) × ExtendSeq × ExtendClock × Int × Int) : Option (Fl (Int × (List (Int × Antiphonref09Thing)) × ReorderConfig × Bool × Int × Int × FrameMaker × (List (Int × Antiphonref03Packet)) × ExtendSeq × ExtendClock × Int × Int) (Fl ((List (Int × Antiphonref09Thing)) × ReorderConfig × Bool × Int × Int × FrameMaker × (List (Int × Antiphonref03Packet)) × ExtendSeq × ExtendClock × Int × Int) Bool)) :=
  bif (pickB (ltI s2.1 (lenL x0)) (ltI s2.1 30) false) then (
    need (InB s2.1 (lenL x0)) <|
    ((gLaw01Cut (nthI x0 s2.1) 40)).bind fun r4 =>
    ((gIngressSourcePut (IngressSource.mk (ReorderBuffer.mk s2.2.2.1 s2.2.2.2.1 s2.2.2.2.2.1 s2.2.1 s2.2.2.2.2.2.1) s2.2.2.2.2.2.2.1 s2.2.2.2.2.2.2.2.2.1 s2.2.2.2.2.2.2.2.2.2.1 s2.2.2.2.2.2.2.2.1 s2.2.2.2.2.2.2.2.2.2.2.1 s2.2.2.2.2.2.2.2.2.2.2.2) (Antiphonref03Packet.mk false 0 (addI .u16 x1 (cvtI .u16 s2.1)) (cvtI .u32 (mulI .i64 960 s2.1)) 0 [] false 0 ⟨#[]⟩ r4 0) s2.1)).bind fun r5 =>
    need (Under (pickB (neI r5.2.1 0) true (neI (lenL r5.1) 1)) false (InB 0 (lenL r5.1))) <|
    need (Under (pickB (pickB (neI r5.2.1 0) true (neI (lenL r5.1) 1)) true (neI (lenL ((nthI r5.1 0).fUnits)) 1)) false (InB 0 (lenL r5.1))) <|
    need (Under (pickB (pickB (neI r5.2.1 0) true (neI (lenL r5.1) 1)) true (neI (lenL ((nthI r5.1 0).fUnits)) 1)) false (InB 0 (lenL ((nthI r5.1 0).fUnits)))) <|
    need (Under (pickB (pickB (pickB (neI r5.2.1 0) true (neI (lenL r5.1) 1)) true (neI (lenL ((nthI r5.1 0).fUnits)) 1)) true (neS ((nthI ((nthI r5.1 0).fUnits) 0).fText) r4)) false (InB 0 (lenL r5.1))) <|
    need (Under (pickB (pickB (pickB (neI r5.2.1 0) true (neI (lenL r5.1) 1)) true (neI (lenL ((nthI r5.1 0).fUnits)) 1)) true (neS ((nthI ((nthI r5.1 0).fUnits) 0).fText) r4)) false ((gFrameFrameKey (nthI r5.1 0)).isSome = true)) <|
    bif (pickB (pickB (pickB (pickB (neI r5.2.1 0) true (neI (lenL r5.1) 1)) true (neI (lenL ((nthI r5.1 0).fUnits)) 1)) true (neS ((nthI ((nthI r5.1 0).fUnits) 0).fText) r4)) true ((gFrameFrameKey (nthI r5.1 0)).getD dflt)) then (
      some (.out (.out false))
    ) else (
      some (.go ((addI .i64 s2.1 1), r5.2.2.fBuffer.fOf, r5.2.2.fBuffer.fConfig, r5.2.2.fBuffer.fBegun, r5.2.2.fBuffer.fNext, r5.2.2.fBuffer.fLost, r5.2.2.fMaker, r5.2.2.fOf, r5.2.2.fSeq, r5.2.2.fClock, r5.2.2.fBad, r5.2.2.fKeys))
    )
  ) else (
    some (.out (.go (s2.2.1, s2.2.2.1, s2.2.2.2.1, s2.2.2.2.2.1, s2.2.2.2.2.2.1, s2.2.2.2.2.2.2.1, s2.2.2.2.2.2.2.2.1, s2.2.2.2.2.2.2.2.2.1, s2.2.2.2.2.2.2.2.2.2.1, s2.2.2.2.2.2.2.2.2.2.2.1, s2.2.2.2.2.2.2.2.2.2.2.2)))
  )

noncomputable def gLaw11IngressSounds (x0 : List ByteArray) (x1 : Int) : Option Bool :=
  (gLaw11Awake).bind fun r1 =>
  bif (notB r1) then (
    some false
  ) else (
    ((gLaw11Config false 9 9 0)).bind fun r2 =>
    ((gLaw11Begin r2)).bind fun r3 =>
    optC r3.1 (
      bif (notB r3.2.2) then (
        some false
      ) else (
        ((loopF (gLaw11IngressSounds.loop1 x0) ()).bind fun f => flC f fun (v1 : Unit) =>
          none
        )
      )
    ) fun o1 => (
      bif (notB r3.2.2) then (
        some false
      ) else (
        ((loopF (gLaw11IngressSounds.loop2 x0 x1) (0, o1.fBuffer.fOf, o1.fBuffer.fConfig, o1.fBuffer.fBegun, o1.fBuffer.fNext, o1.fBuffer.fLost, o1.fMaker, o1.fOf, o1.fSeq, o1.fClock, o1.fBad, o1.fKeys)).bind fun f => flC f fun (v2 : (List (Int × Antiphonref09Thing)) × ReorderConfig × Bool × Int × Int × FrameMaker × (List (Int × Antiphonref03Packet)) × ExtendSeq × ExtendClock × Int × Int) =>
          ((gIngressSourceCounts (IngressSource.mk (ReorderBuffer.mk v2.2.1 v2.2.2.1 v2.2.2.2.1 v2.1 v2.2.2.2.2.1) v2.2.2.2.2.2.1 v2.2.2.2.2.2.2.2.1 v2.2.2.2.2.2.2.2.2.1 v2.2.2.2.2.2.2.1 v2.2.2.2.2.2.2.2.2.2.1 v2.2.2.2.2.2.2.2.2.2.2))).bind fun r6 =>
          need (Under (pickB (eqI r6.1 (minI (lenL x0) 30)) (eqI r6.2 0) false) true ((gIngressSourceBad (IngressSource.mk (ReorderBuffer.mk v2.2.1 v2.2.2.1 v2.2.2.2.1 v2.1 v2.2.2.2.2.1) v2.2.2.2.2.2.1 v2.2.2.2.2.2.2.2.1 v2.2.2.2.2.2.2.2.2.1 v2.2.2.2.2.2.2.1 v2.2.2.2.2.2.2.2.2.2.1 v2.2.2.2.2.2.2.2.2.2.2)).isSome = true)) <|
          some (pickB (pickB (eqI r6.1 (minI (lenL x0) 30)) (eqI r6.2 0) false) (eqI ((gIngressSourceBad (IngressSource.mk (ReorderBuffer.mk v2.2.1 v2.2.2.1 v2.2.2.2.1 v2.1 v2.2.2.2.2.1) v2.2.2.2.2.2.1 v2.2.2.2.2.2.2.2.1 v2.2.2.2.2.2.2.2.2.1 v2.2.2.2.2.2.2.1 v2.2.2.2.2.2.2.2.2.2.1 v2.2.2.2.2.2.2.2.2.2.2)).getD dflt) 0) false)
        )
      )
    )
  )
end Go.Proofs
end

/- What these functions compute, as plain functions. No condition. -/
import Derived.Test.YtbijdlgffebenaaTs
import Derived.Test.YtbijdlgffebenaaM08
import Derived.Test.YtbijdlgffebenaaM05
section
namespace Go.Proofs
open Go.Ab
noncomputable def gReorderBufferFirst (x0 : ReorderBuffer) : Option Int :=
  need (KeysB (keysM x0.fOf)) <|
  need (MinB (keysM x0.fOf)) <|
  some (minL (keysM x0.fOf))

noncomputable def gReorderBufferSkip (x0 : ReorderBuffer) : Option (List Antiphonref09Thing × Nat × ReorderBuffer) :=
  ((gReorderBufferFirst x0)).bind fun r1 =>
  ((gReorderBufferRun (ReorderBuffer.mk x0.fConfig x0.fBegun r1 x0.fOf (addI .i64 x0.fLost (subI .i64 r1 x0.fNext))))).bind fun r2 =>
  some (r2.1, r2.2.1, r2.2.2)

noncomputable def gReorderBufferMissing.loop2 (x0 : ReorderBuffer) (x1 : Int) (s1 : Int × Int × List Int) (s2 : Int × List Int) : Option (Fl (Int × List Int) (Fl (List Int) (Fl (Int × Int × List Int) (Fl (List Int) (List Int))))) :=
  bif (pickB (ltI s2.1 (nthI (sortL (keysM x0.fOf)) s1.1)) (ltI (lenL s2.2) x1) false) then (
    need (AppB (lenL s2.2) 1 8) <|
    some (.go ((addI .i64 s2.1 1), (appL s2.2 [s2.1])))
  ) else (
    some (.out (.go s2.2))
  )

noncomputable def gReorderBufferMissing.loop1 (x0 : ReorderBuffer) (x1 : Int) (s1 : Int × Int × List Int) : Option (Fl (Int × Int × List Int) (Fl (List Int) (List Int))) :=
  bif (ltI s1.1 (lenL (sortL (keysM x0.fOf)))) then (
    need (InB s1.1 (lenL (sortL (keysM x0.fOf)))) <|
    ((loopF (gReorderBufferMissing.loop2 x0 x1 s1) (s1.2.1, s1.2.2)).bind fun f => flC f fun (v2 : List Int) =>
      some (.go ((addI .i64 s1.1 1), (addI .i64 (nthI (sortL (keysM x0.fOf)) s1.1) 1), v2))
    )
  ) else (
    some (.out (.go s1.2.2))
  )

noncomputable def gReorderBufferMissing (x0 : ReorderBuffer) (x1 : Int) : Option (List Int) :=
  need (KeysB (keysM x0.fOf)) <|
  ((loopF (gReorderBufferMissing.loop1 x0 x1) (0, x0.fNext, [])).bind fun f => flC f fun (v1 : List Int) =>
    some v1
  )

noncomputable def gReorderBufferPut.loop2  (s2 : List Antiphonref09Thing × ReorderConfig × Bool × Int × Int × (List (Int × Antiphonref09Thing))) : Option (Fl (List Antiphonref09Thing × ReorderConfig × Bool × Int × Int × (List (Int × Antiphonref09Thing))) (Fl (List Antiphonref09Thing × ReorderConfig × Bool × Int × Int × (List (Int × Antiphonref09Thing))) (List Antiphonref09Thing × Int × ReorderBuffer))) :=
  bif (ltI s2.2.1.fMost (lenL s2.2.2.2.2.2)) then (
    ((gReorderBufferSkip (ReorderBuffer.mk s2.2.1 s2.2.2.1 s2.2.2.2.1 s2.2.2.2.2.2 s2.2.2.2.2.1))).bind fun r2 =>
    need (AppB (lenL s2.1) (lenL r2.1) 32) <|
    some (.go ((appL s2.1 r2.1), r2.2.2.fConfig, r2.2.2.fBegun, r2.2.2.fNext, r2.2.2.fLost, r2.2.2.fOf))
  ) else (
    some (.out (.go (s2.1, s2.2.1, s2.2.2.1, s2.2.2.2.1, s2.2.2.2.2.1, s2.2.2.2.2.2)))
  )

noncomputable def gReorderBufferPut (x0 : ReorderBuffer) (x1 : Antiphonref09Thing) : Option (List Antiphonref09Thing × Int × ReorderBuffer) :=
  ((
    bif (notB x0.fBegun) then (
      some (.go (true, x1.fAt))
    ) else (
      some (.go (x0.fBegun, x0.fNext))
    )
    : Option (Fl (Bool × Int) (List Antiphonref09Thing × Int × ReorderBuffer))).bind fun f => flC f fun (v1 : Bool × Int) =>
    bif (ltI x1.fAt v1.2) then (
      some ([], 13, (ReorderBuffer.mk x0.fConfig v1.1 v1.2 x0.fOf x0.fLost))
    ) else (
      bif (hasM eqI x1.fAt x0.fOf) then (
        some ([], 14, (ReorderBuffer.mk x0.fConfig v1.1 v1.2 x0.fOf x0.fLost))
      ) else (
        ((gReorderBufferRun (ReorderBuffer.mk x0.fConfig v1.1 v1.2 (setM eqI x1.fAt x1 x0.fOf) x0.fLost))).bind fun r1 =>
        ((loopF gReorderBufferPut.loop2 (r1.1, r1.2.2.fConfig, r1.2.2.fBegun, r1.2.2.fNext, r1.2.2.fLost, r1.2.2.fOf)).bind fun f => flC f fun (v2 : List Antiphonref09Thing × ReorderConfig × Bool × Int × Int × (List (Int × Antiphonref09Thing))) =>
          some (v2.1, 0, (ReorderBuffer.mk v2.2.1 v2.2.2.1 v2.2.2.2.1 v2.2.2.2.2.2 v2.2.2.2.2.1))
        )
      )
    )
  )

noncomputable def gReorderBufferTick.loop1 (x1 : Int) (s1 : List Antiphonref09Thing × ReorderConfig × Bool × Int × Int × (List (Int × Antiphonref09Thing))) : Option (Fl (List Antiphonref09Thing × ReorderConfig × Bool × Int × Int × (List (Int × Antiphonref09Thing))) (Fl (List Antiphonref09Thing × ReorderConfig × Bool × Int × Int × (List (Int × Antiphonref09Thing))) (List Antiphonref09Thing × ReorderBuffer))) :=
  bif (ltI 0 (lenL s1.2.2.2.2.2)) then (
    ((gReorderBufferFirst (ReorderBuffer.mk s1.2.1 s1.2.2.1 s1.2.2.2.1 s1.2.2.2.2.2 s1.2.2.2.2.1))).bind fun r1 =>
    bif (ltI (subI .i64 x1 ((getM eqI r1 (Antiphonref09Thing.mk 0 ⟨⟨[]⟩⟩ 0) s1.2.2.2.2.2).fTick)) s1.2.1.fWait) then (
      some (.out (.go (s1.1, s1.2.1, s1.2.2.1, s1.2.2.2.1, s1.2.2.2.2.1, s1.2.2.2.2.2)))
    ) else (
      ((gReorderBufferSkip (ReorderBuffer.mk s1.2.1 s1.2.2.1 s1.2.2.2.1 s1.2.2.2.2.2 s1.2.2.2.2.1))).bind fun r2 =>
      need (AppB (lenL s1.1) (lenL r2.1) 32) <|
      some (.go ((appL s1.1 r2.1), r2.2.2.fConfig, r2.2.2.fBegun, r2.2.2.fNext, r2.2.2.fLost, r2.2.2.fOf))
    )
  ) else (
    some (.out (.go (s1.1, s1.2.1, s1.2.2.1, s1.2.2.2.1, s1.2.2.2.2.1, s1.2.2.2.2.2)))
  )

noncomputable def gReorderBufferTick (x0 : ReorderBuffer) (x1 : Int) : Option (List Antiphonref09Thing × ReorderBuffer) :=
  ((loopF (gReorderBufferTick.loop1 x1) ([], x0.fConfig, x0.fBegun, x0.fNext, x0.fLost, x0.fOf)).bind fun f => flC f fun (v1 : List Antiphonref09Thing × ReorderConfig × Bool × Int × Int × (List (Int × Antiphonref09Thing))) =>
    some (v1.1, (ReorderBuffer.mk v1.2.1 v1.2.2.1 v1.2.2.2.1 v1.2.2.2.2.2 v1.2.2.2.2.1))
  )
end Go.Proofs
end
section
namespace Go.Proofs
open Go.Ab
noncomputable def gRef02Bytes (x0 : Antiphonref02Reader) (x1 : Int) : Option (Antiphonref02Reader × ByteArray) :=
  bif (neI x0.fE 0) then (
    some (x0, ⟨#[]⟩)
  ) else (
    bif (ltI x1 0) then (
      some ((Antiphonref02Reader.mk ⟨#[]⟩ 5), ⟨#[]⟩)
    ) else (
      bif (ltI (lenS x0.fS) x1) then (
        some ((Antiphonref02Reader.mk ⟨#[]⟩ 1), ⟨#[]⟩)
      ) else (
        need (CutB x1 (lenS x0.fS) (lenS x0.fS)) <|
        need (CutB 0 x1 (lenS x0.fS)) <|
        some ((Antiphonref02Reader.mk (cutS x0.fS x1 (lenS x0.fS)) 0), (cutS x0.fS 0 x1))
      )
    )
  )

noncomputable def gRef02Value.loop1 (x0 : ByteArray) (s1 : Int × Int) : Option (Fl (Int × Int) (Fl Int Int)) :=
  bif (ltI s1.1 (lenS x0)) then (
    need (InB s1.1 (lenS x0)) <|
    some (.go ((addI .i64 s1.1 1), (addI .u64 (mulI .u64 s1.2 256) (cvtI .u64 (idxS x0 s1.1)))))
  ) else (
    some (.out (.go s1.2))
  )

noncomputable def gRef02Value (x0 : ByteArray) : Option Int :=
  ((loopF (gRef02Value.loop1 x0) (0, 0)).bind fun f => flC f fun (v1 : Int) =>
    some v1
  )

noncomputable def gRef02Take (x0 : Antiphonref02Reader) (x1 : Int) : Option (Antiphonref02Reader × Int) :=
  ((gRef02Bytes x0 (minI (maxI x1 1) 8))).bind fun r1 =>
  ((gRef02Value r1.2)).bind fun r2 =>
  some (r1.1, r2)

noncomputable def gRef04Numbers (x0 : Antiphonref02Reader) (x1 : Antiphonref04Desc) (x2 : Int) : Option (Antiphonref02Reader × Antiphonref04Desc) :=
  ((
    need (NonZ 128) <|
    bif (eqI (quoI .i64 x2 128) 1) then (
      ((gRef02Take x0 1)).bind fun r1 =>
      bif (ltI 127 r1.2) then (
        ((gRef02Take r1.1 1)).bind fun r2 =>
        some (.go (r2.1, (Antiphonref04Desc.mk x1.fNonRef x1.fStart x1.fPart (addI .i64 (mulI .i64 (cvtI .i64 (subI .u64 r1.2 128)) 256) (cvtI .i64 r2.2)) true x1.fLevel x1.fLayer x1.fSync x1.fKey)))
      ) else (
        some (.go (r1.1, (Antiphonref04Desc.mk x1.fNonRef x1.fStart x1.fPart (cvtI .i64 r1.2) x1.fWide x1.fLevel x1.fLayer x1.fSync x1.fKey)))
      )
    ) else (
      some (.go (x0, x1))
    )
    : Option (Fl (Antiphonref02Reader × Antiphonref04Desc) (Antiphonref02Reader × Antiphonref04Desc))).bind fun f => flC f fun (v1 : Antiphonref02Reader × Antiphonref04Desc) =>
    ((
      need (NonZ 64) <|
      need (NonZ 2) <|
      bif (eqI (remI (quoI .i64 x2 64) 2) 1) then (
        ((gRef02Take v1.1 1)).bind fun r3 =>
        some (.go (r3.1, (Antiphonref04Desc.mk v1.2.fNonRef v1.2.fStart v1.2.fPart v1.2.fPicture v1.2.fWide (cvtI .i64 r3.2) v1.2.fLayer v1.2.fSync v1.2.fKey)))
      ) else (
        some (.go (v1.1, v1.2))
      )
      : Option (Fl (Antiphonref02Reader × Antiphonref04Desc) (Antiphonref02Reader × Antiphonref04Desc))).bind fun f => flC f fun (v2 : Antiphonref02Reader × Antiphonref04Desc) =>
      some (v2.1, v2.2)
    )
  )

noncomputable def gRef04Last (x0 : Antiphonref02Reader) (x1 : Antiphonref04Desc) (x2 : Int) : Option (Antiphonref02Reader × Antiphonref04Desc) :=
  ((gRef04Numbers x0 x1 x2)).bind fun r1 =>
  ((
    need (NonZ 16) <|
    need (NonZ 4) <|
    bif (ltI 0 (remI (quoI .i64 x2 16) 4)) then (
      ((gRef02Take r1.1 1)).bind fun r2 =>
      ((
        need (NonZ 32) <|
        need (NonZ 2) <|
        bif (eqI (remI (quoI .i64 x2 32) 2) 1) then (
          need (NonZ 64) <|
          need (NonZ 32) <|
          need (NonZ 2) <|
          some (.go (Antiphonref04Desc.mk r1.2.fNonRef r1.2.fStart r1.2.fPart r1.2.fPicture r1.2.fWide r1.2.fLevel (cvtI .i64 (quoI .u64 r2.2 64)) (eqI (remI (quoI .u64 r2.2 32) 2) 1) r1.2.fKey))
        ) else (
          some (.go r1.2)
        )
        : Option (Fl Antiphonref04Desc (Fl (Antiphonref02Reader × Antiphonref04Desc) (Antiphonref02Reader × Antiphonref04Desc)))).bind fun f => flC f fun (v2 : Antiphonref04Desc) =>
        need (NonZ 16) <|
        need (NonZ 2) <|
        bif (eqI (remI (quoI .i64 x2 16) 2) 1) then (
          need (NonZ 32) <|
          some (.go (r2.1, (Antiphonref04Desc.mk v2.fNonRef v2.fStart v2.fPart v2.fPicture v2.fWide v2.fLevel v2.fLayer v2.fSync (cvtI .i64 (remI r2.2 32)))))
        ) else (
          some (.go (r2.1, v2))
        )
      )
    ) else (
      some (.go (r1.1, r1.2))
    )
    : Option (Fl (Antiphonref02Reader × Antiphonref04Desc) (Antiphonref02Reader × Antiphonref04Desc))).bind fun f => flC f fun (v1 : Antiphonref02Reader × Antiphonref04Desc) =>
    some (v1.1, v1.2)
  )

noncomputable def gRef04Parse (x0 : ByteArray) : Option (Antiphonref04Desc × ByteArray × Int) :=
  ((gRef02Take (Antiphonref02Reader.mk x0 0) 1)).bind fun r1 =>
  need (NonZ 32) <|
  need (NonZ 2) <|
  need (NonZ 16) <|
  need (NonZ 2) <|
  need (NonZ 8) <|
  ((
    bif (ltI 127 r1.2) then (
      ((gRef02Take r1.1 1)).bind fun r2 =>
      some (.go ((cvtI .i64 r2.2), r2.1))
    ) else (
      some (.go (0, r1.1))
    )
    : Option (Fl (Int × Antiphonref02Reader) (Antiphonref04Desc × ByteArray × Int))).bind fun f => flC f fun (v1 : Int × Antiphonref02Reader) =>
    ((gRef04Last v1.2 (Antiphonref04Desc.mk (eqI (remI (quoI .u64 r1.2 32) 2) 1) (eqI (remI (quoI .u64 r1.2 16) 2) 1) (cvtI .i64 (remI r1.2 8)) (-1) false (-1) (-1) false (-1)) v1.1)).bind fun r3 =>
    bif (neI r3.1.fE 0) then (
      some ((Antiphonref04Desc.mk false false 0 0 false 0 0 false 0), ⟨#[]⟩, r3.1.fE)
    ) else (
      some (r3.2, r3.1.fS, 0)
    )
  )
end Go.Proofs
end

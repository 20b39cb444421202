/- What these functions compute, as plain functions. No condition. -/
import Derived.Test.YtbijdlgffebenaaTs
import Derived.Test.YtbijdlgffebenaaM04
import Derived.Test.YtbijdlgffebenaaM02
namespace Go.Proofs
open Go.Ab
noncomputable def gOctetRead (x0 : ByteArray) : Option OctetReader :=
  some (OctetReader.mk x0 0)

noncomputable def gOctetReaderLen (x0 : OctetReader) : Option Int :=
  some (lenS x0.fS)

noncomputable def gOctetReaderErr (x0 : OctetReader) : Option Int :=
  some x0.fE

noncomputable def gOctetReaderFail (x0 : OctetReader) (x1 : Int) : Option OctetReader :=
  bif (pickB (eqI x0.fE 0) (neI x1 0) false) then (
    some (OctetReader.mk ⟨#[]⟩ x1)
  ) else (
    some x0
  )

noncomputable def gOctetReaderBytes (x0 : OctetReader) (x1 : Int) : Option (ByteArray × OctetReader) :=
  bif (neI x0.fE 0) then (
    some (⟨#[]⟩, x0)
  ) else (
    bif (ltI x1 0) then (
      ((gOctetReaderFail x0 5)).bind fun r1 =>
      some (⟨#[]⟩, r1)
    ) else (
      bif (ltI (lenS x0.fS) x1) then (
        ((gOctetReaderFail x0 1)).bind fun r2 =>
        some (⟨#[]⟩, r2)
      ) else (
        need (CutB 0 x1 (lenS x0.fS)) <|
        need (CutB x1 (lenS x0.fS) (lenS x0.fS)) <|
        some ((cutS x0.fS 0 x1), (OctetReader.mk (cutS x0.fS x1 (lenS x0.fS)) x0.fE))
      )
    )
  )

noncomputable def gOctetReaderNum.loop1 (r1 : ByteArray × OctetReader) (s1 : Int × Int) : Option (Fl (Int × Int) (Fl Int (Int × OctetReader))) :=
  bif (ltI s1.1 (lenL (numsOf r1.1))) then (
    need (InB s1.1 (lenL (numsOf r1.1))) <|
    need (NonN 8) <|
    some (.go ((addI .i64 s1.1 1), (bitsOp .or .u64 (shlI .u64 s1.2 8) (cvtI .u64 (nthI (numsOf r1.1) s1.1)))))
  ) else (
    some (.out (.go s1.2))
  )

noncomputable def gOctetReaderNum (x0 : OctetReader) (x1 : Int) : Option (Int × OctetReader) :=
  ((gOctetReaderBytes x0 (minI (maxI x1 1) 8))).bind fun r1 =>
  ((loopF (gOctetReaderNum.loop1 r1) (0, 0)).bind fun f => flC f fun (v1 : Int) =>
    some (v1, r1.2)
  )

noncomputable def gOctetReaderU8 (x0 : OctetReader) : Option (Int × OctetReader) :=
  ((gOctetReaderNum x0 1)).bind fun r1 =>
  some ((cvtI .u8 r1.1), r1.2)

noncomputable def gOctetReaderRest (x0 : OctetReader) : Option (ByteArray × OctetReader) :=
  ((gOctetReaderLen x0)).bind fun r1 =>
  ((gOctetReaderBytes x0 r1)).bind fun r2 =>
  some (r2.1, r2.2)

noncomputable def gVp8Plain : Option Antiphonref04Desc :=
  some (Antiphonref04Desc.mk false false 0 (-1) false (-1) (-1) false (-1))

noncomputable def gVp8Bit (x0 : Bool) (x1 : Int) : Option Int :=
  bif x0 then (
    some x1
  ) else (
    some 0
  )

noncomputable def gVp8DescMore (x0 : Antiphonref04Desc) : Option Bool :=
  some (pickB (pickB (pickB (leqI 0 x0.fPicture) true (leqI 0 x0.fLevel)) true (leqI 0 x0.fLayer)) true (leqI 0 x0.fKey))

noncomputable def gVp8DescText (x0 : Antiphonref04Desc) : Option ByteArray :=
  ((gVp8DescMore x0)).bind fun r1 =>
  ((gVp8Bit r1 128)).bind fun r2 =>
  ((gVp8Bit x0.fNonRef 32)).bind fun r3 =>
  ((gVp8Bit x0.fStart 16)).bind fun r4 =>
  need (AppB 0 1 1) <|
  bif (notB r1) then (
    need (TextB (appL [] [(bitsOp .or .u8 (bitsOp .or .u8 (bitsOp .or .u8 r2 r3) r4) (cvtI .u8 (bitsOp .and .i64 x0.fPart 7)))])) <|
    some (strOfNums (appL [] [(bitsOp .or .u8 (bitsOp .or .u8 (bitsOp .or .u8 r2 r3) r4) (cvtI .u8 (bitsOp .and .i64 x0.fPart 7)))]))
  ) else (
    ((gVp8Bit (leqI 0 x0.fPicture) 128)).bind fun r5 =>
    ((gVp8Bit (leqI 0 x0.fLevel) 64)).bind fun r6 =>
    ((gVp8Bit (leqI 0 x0.fLayer) 32)).bind fun r7 =>
    ((gVp8Bit (leqI 0 x0.fKey) 16)).bind fun r8 =>
    need (AppB 1 1 1) <|
    ((
      bif (pickB (leqI 0 x0.fPicture) x0.fWide false) then (
        ((gOctetWriterU16 (appL (appL [] [(bitsOp .or .u8 (bitsOp .or .u8 (bitsOp .or .u8 r2 r3) r4) (cvtI .u8 (bitsOp .and .i64 x0.fPart 7)))]) [(bitsOp .or .u8 (bitsOp .or .u8 (bitsOp .or .u8 r5 r6) r7) r8)]) [(bitsOp .or .u16 (cvtI .u16 x0.fPicture) 32768)])).bind fun r9 =>
        some (.go r9)
      ) else (
        bif (leqI 0 x0.fPicture) then (
          need (AppB 2 1 1) <|
          some (.go (appL (appL (appL [] [(bitsOp .or .u8 (bitsOp .or .u8 (bitsOp .or .u8 r2 r3) r4) (cvtI .u8 (bitsOp .and .i64 x0.fPart 7)))]) [(bitsOp .or .u8 (bitsOp .or .u8 (bitsOp .or .u8 r5 r6) r7) r8)]) [(cvtI .u8 (bitsOp .and .i64 x0.fPicture 127))]))
        ) else (
          some (.go (appL (appL [] [(bitsOp .or .u8 (bitsOp .or .u8 (bitsOp .or .u8 r2 r3) r4) (cvtI .u8 (bitsOp .and .i64 x0.fPart 7)))]) [(bitsOp .or .u8 (bitsOp .or .u8 (bitsOp .or .u8 r5 r6) r7) r8)]))
        )
      )
      : Option (Fl (List Int) ByteArray)).bind fun f => flC f fun (v1 : List Int) =>
      ((
        bif (leqI 0 x0.fLevel) then (
          need (AppB (lenL v1) 1 1) <|
          some (.go (appL v1 [(cvtI .u8 x0.fLevel)]))
        ) else (
          some (.go v1)
        )
        : Option (Fl (List Int) ByteArray)).bind fun f => flC f fun (v2 : List Int) =>
        ((
          bif (pickB (leqI 0 x0.fLayer) true (leqI 0 x0.fKey)) then (
            need (NonN 6) <|
            ((gVp8Bit x0.fSync 32)).bind fun r10 =>
            need (AppB (lenL v2) 1 1) <|
            some (.go (appL v2 [(bitsOp .or .u8 (bitsOp .or .u8 (shlI .u8 (cvtI .u8 (maxI x0.fLayer 0)) 6) r10) (cvtI .u8 (maxI x0.fKey 0)))]))
          ) else (
            some (.go v2)
          )
          : Option (Fl (List Int) ByteArray)).bind fun f => flC f fun (v3 : List Int) =>
          need (TextB v3) <|
          some (strOfNums v3)
        )
      )
    )
  )

noncomputable def gVp8DescPicture (x0 : Antiphonref04Desc) (x1 : OctetReader) : Option (Antiphonref04Desc × OctetReader) :=
  ((gOctetReaderU8 x1)).bind fun r1 =>
  ((
    bif (ltI 127 (cvtI .i64 r1.1)) then (
      need (NonN 8) <|
      ((gOctetReaderU8 r1.2)).bind fun r2 =>
      some (.go ((bitsOp .or .i64 (shlI .i64 (bitsOp .and .i64 (cvtI .i64 r1.1) 127) 8) (cvtI .i64 r2.1)), r2.2, (Antiphonref04Desc.mk x0.fNonRef x0.fStart x0.fPart x0.fPicture true x0.fLevel x0.fLayer x0.fSync x0.fKey)))
    ) else (
      some (.go ((cvtI .i64 r1.1), r1.2, (Antiphonref04Desc.mk x0.fNonRef x0.fStart x0.fPart x0.fPicture false x0.fLevel x0.fLayer x0.fSync x0.fKey)))
    )
    : Option (Fl (Int × OctetReader × Antiphonref04Desc) (Antiphonref04Desc × OctetReader))).bind fun f => flC f fun (v1 : Int × OctetReader × Antiphonref04Desc) =>
    some ((Antiphonref04Desc.mk v1.2.2.fNonRef v1.2.2.fStart v1.2.2.fPart v1.1 v1.2.2.fWide v1.2.2.fLevel v1.2.2.fLayer v1.2.2.fSync v1.2.2.fKey), v1.2.1)
  )

noncomputable def gVp8Parse (x0 : ByteArray) : Option (Antiphonref04Desc × ByteArray × Int) :=
  ((gOctetRead x0)).bind fun r1 =>
  ((gOctetReaderU8 r1)).bind fun r2 =>
  (gVp8Plain).bind fun r3 =>
  ((
    bif (ltI 127 r2.1) then (
      ((gOctetReaderU8 r2.2)).bind fun r4 =>
      some (.go (r4.1, r4.2))
    ) else (
      some (.go (0, r2.2))
    )
    : Option (Fl (Int × OctetReader) (Antiphonref04Desc × ByteArray × Int))).bind fun f => flC f fun (v1 : Int × OctetReader) =>
    ((
      bif (ltI 0 (bitsOp .and .u8 v1.1 128)) then (
        ((gVp8DescPicture (Antiphonref04Desc.mk (ltI 0 (bitsOp .and .u8 r2.1 32)) (ltI 0 (bitsOp .and .u8 r2.1 16)) (cvtI .i64 (bitsOp .and .u8 r2.1 7)) r3.fPicture r3.fWide r3.fLevel r3.fLayer r3.fSync r3.fKey) v1.2)).bind fun r5 =>
        some (.go (r5.2, r5.1))
      ) else (
        some (.go (v1.2, (Antiphonref04Desc.mk (ltI 0 (bitsOp .and .u8 r2.1 32)) (ltI 0 (bitsOp .and .u8 r2.1 16)) (cvtI .i64 (bitsOp .and .u8 r2.1 7)) r3.fPicture r3.fWide r3.fLevel r3.fLayer r3.fSync r3.fKey)))
      )
      : Option (Fl (OctetReader × Antiphonref04Desc) (Antiphonref04Desc × ByteArray × Int))).bind fun f => flC f fun (v2 : OctetReader × Antiphonref04Desc) =>
      ((
        bif (ltI 0 (bitsOp .and .u8 v1.1 64)) then (
          ((gOctetReaderU8 v2.1)).bind fun r6 =>
          some (.go (r6.2, (Antiphonref04Desc.mk v2.2.fNonRef v2.2.fStart v2.2.fPart v2.2.fPicture v2.2.fWide (cvtI .i64 r6.1) v2.2.fLayer v2.2.fSync v2.2.fKey)))
        ) else (
          some (.go (v2.1, v2.2))
        )
        : Option (Fl (OctetReader × Antiphonref04Desc) (Antiphonref04Desc × ByteArray × Int))).bind fun f => flC f fun (v3 : OctetReader × Antiphonref04Desc) =>
        ((
          bif (ltI 0 (bitsOp .and .u8 v1.1 48)) then (
            ((gOctetReaderU8 v3.1)).bind fun r7 =>
            ((
              bif (ltI 0 (bitsOp .and .u8 v1.1 32)) then (
                need (NonN 6) <|
                some (.go (Antiphonref04Desc.mk v3.2.fNonRef v3.2.fStart v3.2.fPart v3.2.fPicture v3.2.fWide v3.2.fLevel (cvtI .i64 (shrI .u8 r7.1 6)) (ltI 0 (bitsOp .and .u8 r7.1 32)) v3.2.fKey))
              ) else (
                some (.go v3.2)
              )
              : Option (Fl Antiphonref04Desc (Fl (OctetReader × Antiphonref04Desc) (Antiphonref04Desc × ByteArray × Int)))).bind fun f => flC f fun (v5 : Antiphonref04Desc) =>
              bif (ltI 0 (bitsOp .and .u8 v1.1 16)) then (
                some (.go (r7.2, (Antiphonref04Desc.mk v5.fNonRef v5.fStart v5.fPart v5.fPicture v5.fWide v5.fLevel v5.fLayer v5.fSync (cvtI .i64 (bitsOp .and .u8 r7.1 31)))))
              ) else (
                some (.go (r7.2, v5))
              )
            )
          ) else (
            some (.go (v3.1, v3.2))
          )
          : Option (Fl (OctetReader × Antiphonref04Desc) (Antiphonref04Desc × ByteArray × Int))).bind fun f => flC f fun (v4 : OctetReader × Antiphonref04Desc) =>
          ((gOctetReaderErr v4.1)).bind fun r8 =>
          bif (neI r8 0) then (
            some ((Antiphonref04Desc.mk false false 0 0 false 0 0 false 0), ⟨#[]⟩, r8)
          ) else (
            ((gOctetReaderRest v4.1)).bind fun r9 =>
            some (v4.2, r9.1, 0)
          )
        )
      )
    )
  )

noncomputable def gVp8Keyframe (x0 : Antiphonref04Desc) (x1 : ByteArray) : Option Bool :=
  need (Under (pickB (pickB x0.fStart (eqI x0.fPart 0) false) (neS x1 ⟨#[]⟩) false) true (InB 0 (lenS x1))) <|
  some (pickB (pickB (pickB x0.fStart (eqI x0.fPart 0) false) (neS x1 ⟨#[]⟩) false) (eqI (bitsOp .and .u8 (idxS x1 0) 1) 0) false)
end Go.Proofs

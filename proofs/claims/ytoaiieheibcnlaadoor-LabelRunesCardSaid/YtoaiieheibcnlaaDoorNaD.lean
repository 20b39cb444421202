/- What these functions compute, as plain functions. No condition. -/
import Derived.Test.YtoaiieheibcnlaaDoorTs
import Derived.Test.YtoaiieheibcnlaaDoorUnD
import Derived.Test.YtoaiieheibcnlaaDoorBuD
namespace Go.Proofs
open Go.Ab
noncomputable def gInternalStringsliteHasPrefix (x0 : ByteArray) (x1 : ByteArray) : Option Bool :=
  need (Under (leqI (lenS x1) (lenS x0)) true (CutB 0 (lenS x1) (lenS x0))) <|
  some (pickB (leqI (lenS x1) (lenS x0)) (eqS (cutS x0 0 (lenS x1)) x1) false)

noncomputable def gStringsHasPrefix (x0 : ByteArray) (x1 : ByteArray) : Option Bool :=
  ((gInternalStringsliteHasPrefix x0 x1)).bind fun r1 =>
  some r1

noncomputable def gUnicodeUtf8RuneLen (x0 : Int) : Option Int :=
  bif (ltI x0 0) then (
    some (-1)
  ) else (
    bif (leqI x0 127) then (
      some 1
    ) else (
      bif (leqI x0 2047) then (
        some 2
      ) else (
        bif (pickB (leqI 55296 x0) (leqI x0 57343) false) then (
          some (-1)
        ) else (
          bif (leqI x0 65535) then (
            some 3
          ) else (
            bif (leqI x0 1114111) then (
              some 4
            ) else (
              some (-1)
            )
          )
        )
      )
    )
  )

noncomputable def gLabelClass (x0 : Int) : Option Int :=
  bif (pickB (pickB (eqI x0 45) true (eqI x0 95)) true (eqI x0 46)) then (
    some 3
  ) else (
    need (I32B x0) <|
    bif (letterR x0) then (
      some 1
    ) else (
      need (I32B x0) <|
      bif (digitR x0) then (
        some 2
      ) else (
        some 0
      )
    )
  )

noncomputable def gLabelCheck.loop1 (x0 : ByteArray) (s1 : Int × Int × Nat) : Option (Fl (Int × Int × Nat) (Fl (Int × Int) Int)) :=
  bif (nextB x0 s1.2.2) then (
    ((gLabelClass (runeS x0 s1.2.2))).bind fun r1 =>
    need (Under (eqI (runeS x0 s1.2.2) 65533) true (Under (pickB (eqI r1 0) true (pickB (eqI r1 3) (eqI s1.2.1 3) false)) false (CutB (posI s1.2.2) (lenS x0) (lenS x0)))) <|
    need (Under (eqI (runeS x0 s1.2.2) 65533) true (Under (pickB (eqI r1 0) true (pickB (eqI r1 3) (eqI s1.2.1 3) false)) false ((gStringsHasPrefix (cutS x0 (posI s1.2.2) (lenS x0)) ⟨#[239, 191, 189]⟩).isSome = true))) <|
    bif (pickB (pickB (eqI r1 0) true (pickB (eqI r1 3) (eqI s1.2.1 3) false)) true (pickB (eqI (runeS x0 s1.2.2) 65533) (notB ((gStringsHasPrefix (cutS x0 (posI s1.2.2) (lenS x0)) ⟨#[239, 191, 189]⟩).getD dflt)) false)) then (
      some (.out (.out 6))
    ) else (
      some (.go ((addI .i64 s1.1 1), r1, (stepS x0 s1.2.2)))
    )
  ) else (
    some (.out (.go (s1.1, s1.2.1)))
  )

noncomputable def gLabelCheck (x0 : ByteArray) : Option Int :=
  bif (pickB (eqS x0 ⟨#[]⟩) true (ltI 64 (lenS x0))) then (
    some 6
  ) else (
    ((loopF (gLabelCheck.loop1 x0) (0, 3, 0)).bind fun f => flC f fun (v1 : Int × Int) =>
      bif (pickB (ltI 16 v1.1) true (eqI v1.2 3)) then (
        some 6
      ) else (
        some 0
      )
    )
  )

noncomputable def gLabelFold.loop1 (x0 : ByteArray) (s1 : List Int × Nat) : Option (Fl (List Int × Nat) (Fl (List Int) ByteArray)) :=
  bif (nextB x0 s1.2) then (
    need (I32B (lowerR (runeS x0 s1.2))) <|
    need (AppB (lenL s1.1) 4 1) <|
    some (.go ((appL s1.1 (runeZ (lowerR (runeS x0 s1.2)))), (stepS x0 s1.2)))
  ) else (
    some (.out (.go s1.1))
  )

noncomputable def gLabelFold (x0 : ByteArray) : Option ByteArray :=
  ((loopF (gLabelFold.loop1 x0) ([], 0)).bind fun f => flC f fun (v1 : List Int) =>
    need (TextB v1) <|
    some (strOfNums v1)
  )

noncomputable def gLabelSame (x0 : ByteArray) (x1 : ByteArray) : Option Bool :=
  ((gLabelFold x0)).bind fun r1 =>
  ((gLabelFold x1)).bind fun r2 =>
  some (eqS r1 r2)

noncomputable def gLabelShort.loop1 (x0 : ByteArray) (x1 : Int) (s1 : Int × Int × Nat) : Option (Fl (Int × Int × Nat) (Fl Int ByteArray)) :=
  bif (nextB x0 s1.2.2) then (
    bif (leqI x1 s1.1) then (
      some (.out (.go s1.2.1))
    ) else (
      ((gLabelClass (runeS x0 s1.2.2))).bind fun r1 =>
      bif (neI r1 3) then (
        ((gUnicodeUtf8RuneLen (runeS x0 s1.2.2))).bind fun r2 =>
        some (.go ((addI .i64 s1.1 1), (addI .i64 (posI s1.2.2) r2), (stepS x0 s1.2.2)))
      ) else (
        some (.go ((addI .i64 s1.1 1), s1.2.1, (stepS x0 s1.2.2)))
      )
    )
  ) else (
    some (.out (.go s1.2.1))
  )

noncomputable def gLabelShort (x0 : ByteArray) (x1 : Int) : Option ByteArray :=
  ((loopF (gLabelShort.loop1 x0 x1) (0, 0, 0)).bind fun f => flC f fun (v1 : Int) =>
    need (CutB 0 (minI v1 (lenS x0)) (lenS x0)) <|
    some (cutS x0 0 (minI v1 (lenS x0)))
  )

noncomputable def gLabelLen.loop1 (x0 : ByteArray) (s1 : Int × Nat) : Option (Fl (Int × Nat) (Fl Int Int)) :=
  bif (nextB x0 s1.2) then (
    some (.go ((addI .i64 s1.1 1), (stepS x0 s1.2)))
  ) else (
    some (.out (.go s1.1))
  )

noncomputable def gLabelLen (x0 : ByteArray) : Option Int :=
  ((loopF (gLabelLen.loop1 x0) (0, 0)).bind fun f => flC f fun (v1 : Int) =>
    some v1
  )
end Go.Proofs

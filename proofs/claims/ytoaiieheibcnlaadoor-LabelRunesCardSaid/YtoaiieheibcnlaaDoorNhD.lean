/- What these functions compute, as plain functions. No condition. -/
import Derived.Test.YtoaiieheibcnlaaDoorTs
import Derived.Test.YtoaiieheibcnlaaDoorNeD
import Derived.Test.YtoaiieheibcnlaaDoorNbD
import Derived.Test.YtoaiieheibcnlaaDoorNaD
namespace Go.Proofs
open Go.Ab
noncomputable def gLaw06LabelRunes.loop1 (x0 : List Int) (s1 : Int × ByteArray) : Option (Fl (Int × ByteArray) (Fl ByteArray Bool)) :=
  bif (pickB (ltI s1.1 (lenL x0)) (ltI s1.1 18) false) then (
    need (InB s1.1 (lenL x0)) <|
    need (CatB s1.2 (Utf8.encode (nthI x0 s1.1))) <|
    need (InB s1.1 (lenL x0)) <|
    ((gLabelClass (nthI x0 s1.1))).bind fun r2 =>
    need (InB s1.1 (lenL x0)) <|
    ((gRef06Class (nthI x0 s1.1))).bind fun r3 =>
    bif (neI r2 r3) then (
      some (.out (.out false))
    ) else (
      some (.go ((addI .i64 s1.1 1), (catS s1.2 (Utf8.encode (nthI x0 s1.1)))))
    )
  ) else (
    some (.out (.go s1.2))
  )

noncomputable def gLaw06LabelRunes (x0 : List Int) (x1 : Int) : Option Bool :=
  (gLaw06Awake).bind fun r1 =>
  bif (notB r1) then (
    some false
  ) else (
    ((loopF (gLaw06LabelRunes.loop1 x0) (0, ⟨#[]⟩)).bind fun f => flC f fun (v1 : ByteArray) =>
      ((gLabelCheck v1)).bind fun r4 =>
      ((gRef06Good v1)).bind fun r5 =>
      bif (neB (eqI r4 0) r5) then (
        some false
      ) else (
        bif (notB r5) then (
          some true
        ) else (
          ((gRef06Runes v1)).bind fun r6 =>
          ((gLabelShort v1 x1)).bind fun r7 =>
          ((gLabelLen v1)).bind fun r8 =>
          need (Under (eqI r8 (lenL r6.1)) true ((gLabelFold v1).isSome = true)) <|
          need (Under (eqI r8 (lenL r6.1)) true ((gRef06Fold v1).isSome = true)) <|
          need (Under (pickB (eqI r8 (lenL r6.1)) (eqS ((gLabelFold v1).getD dflt) ((gRef06Fold v1).getD dflt)) false) true ((gRef06Short v1 x1).isSome = true)) <|
          need (Under (eqS r7 ⟨#[]⟩) false (Under (pickB (pickB (eqI r8 (lenL r6.1)) (eqS ((gLabelFold v1).getD dflt) ((gRef06Fold v1).getD dflt)) false) (eqS r7 ((gRef06Short v1 x1).getD dflt)) false) true ((gLabelCheck r7).isSome = true))) <|
          need (Under (pickB (pickB (pickB (eqI r8 (lenL r6.1)) (eqS ((gLabelFold v1).getD dflt) ((gRef06Fold v1).getD dflt)) false) (eqS r7 ((gRef06Short v1 x1).getD dflt)) false) (pickB (eqS r7 ⟨#[]⟩) true (eqI ((gLabelCheck r7).getD dflt) 0)) false) true ((gLabelFold v1).isSome = true)) <|
          need (Under (pickB (pickB (pickB (eqI r8 (lenL r6.1)) (eqS ((gLabelFold v1).getD dflt) ((gRef06Fold v1).getD dflt)) false) (eqS r7 ((gRef06Short v1 x1).getD dflt)) false) (pickB (eqS r7 ⟨#[]⟩) true (eqI ((gLabelCheck r7).getD dflt) 0)) false) true ((gLabelFold ((gLabelFold v1).getD dflt)).isSome = true)) <|
          need (Under (pickB (pickB (pickB (eqI r8 (lenL r6.1)) (eqS ((gLabelFold v1).getD dflt) ((gRef06Fold v1).getD dflt)) false) (eqS r7 ((gRef06Short v1 x1).getD dflt)) false) (pickB (eqS r7 ⟨#[]⟩) true (eqI ((gLabelCheck r7).getD dflt) 0)) false) true ((gRef06Fold v1).isSome = true)) <|
          need (Under (pickB (pickB (pickB (eqI r8 (lenL r6.1)) (eqS ((gLabelFold v1).getD dflt) ((gRef06Fold v1).getD dflt)) false) (eqS r7 ((gRef06Short v1 x1).getD dflt)) false) (pickB (eqS r7 ⟨#[]⟩) true (eqI ((gLabelCheck r7).getD dflt) 0)) false) true ((gRef06Fold ((gRef06Fold v1).getD dflt)).isSome = true)) <|
          some (pickB (pickB (pickB (pickB (eqI r8 (lenL r6.1)) (eqS ((gLabelFold v1).getD dflt) ((gRef06Fold v1).getD dflt)) false) (eqS r7 ((gRef06Short v1 x1).getD dflt)) false) (pickB (eqS r7 ⟨#[]⟩) true (eqI ((gLabelCheck r7).getD dflt) 0)) false) (eqS ((gLabelFold ((gLabelFold v1).getD dflt)).getD dflt) ((gRef06Fold ((gRef06Fold v1).getD dflt)).getD dflt)) false)
        )
      )
    )
  )
end Go.Proofs

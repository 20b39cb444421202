/- What these functions compute, as plain functions. No condition. -/
import Derived.Test.YtnbfecfhejopgaaTs
namespace Go.Proofs
open Go.Ab
noncomputable def gCmpIsNaNInt (x0 : Int) : Option Bool :=
  some (neI x0 x0)

noncomputable def gCmpLessInt (x0 : Int) (x1 : Int) : Option Bool :=
  ((gCmpIsNaNInt x0)).bind fun r1 =>
  need (Under r1 true ((gCmpIsNaNInt x1).isSome = true)) <|
  some (pickB (pickB r1 (notB ((gCmpIsNaNInt x1).getD dflt)) false) true (ltI x0 x1))

noncomputable def gSlicesIsNaNInt (x0 : Int) : Option Bool :=
  some (neI x0 x0)

noncomputable def gSlicesBinarySearchIntInt.loop1 (x0 : List Int) (x1 : Int) (s1 : Int × Int) : Option (Fl (Int × Int) (Fl Int (Int × Bool))) :=
  bif (ltI s1.1 s1.2) then (
    need (NonN 1) <|
    need (InB (cvtI .i64 (shrI .u64 (cvtI .u64 (addI .i64 s1.1 s1.2)) 1)) (lenL x0)) <|
    ((gCmpLessInt (nthI x0 (cvtI .i64 (shrI .u64 (cvtI .u64 (addI .i64 s1.1 s1.2)) 1))) x1)).bind fun r1 =>
    bif r1 then (
      some (.go ((addI .i64 (cvtI .i64 (shrI .u64 (cvtI .u64 (addI .i64 s1.1 s1.2)) 1)) 1), s1.2))
    ) else (
      some (.go (s1.1, (cvtI .i64 (shrI .u64 (cvtI .u64 (addI .i64 s1.1 s1.2)) 1))))
    )
  ) else (
    some (.out (.go s1.1))
  )

noncomputable def gSlicesBinarySearchIntInt (x0 : List Int) (x1 : Int) : Option (Int × Bool) :=
  ((loopF (gSlicesBinarySearchIntInt.loop1 x0 x1) (0, (lenL x0))).bind fun f => flC f fun (v1 : Int) =>
    need (Under (ltI v1 (lenL x0)) true (InB v1 (lenL x0))) <|
    need (Under (eqI (nthI x0 v1) x1) false (Under (ltI v1 (lenL x0)) true (InB v1 (lenL x0)))) <|
    need (Under (eqI (nthI x0 v1) x1) false (Under (ltI v1 (lenL x0)) true ((gSlicesIsNaNInt (nthI x0 v1)).isSome = true))) <|
    need (Under ((gSlicesIsNaNInt (nthI x0 v1)).getD dflt) true (Under (eqI (nthI x0 v1) x1) false (Under (ltI v1 (lenL x0)) true ((gSlicesIsNaNInt x1).isSome = true)))) <|
    some (v1, (pickB (ltI v1 (lenL x0)) (pickB (eqI (nthI x0 v1) x1) true (pickB ((gSlicesIsNaNInt (nthI x0 v1)).getD dflt) ((gSlicesIsNaNInt x1).getD dflt) false)) false))
  )
end Go.Proofs

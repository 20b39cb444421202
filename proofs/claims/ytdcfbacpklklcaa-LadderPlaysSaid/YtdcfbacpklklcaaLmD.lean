/- What these functions compute, as plain functions. No condition. -/
import Derived.Test.YtdcfbacpklklcaaTs
import Derived.Test.YtdcfbacpklklcaaLdD
import Derived.Test.YtdcfbacpklklcaaWlD
namespace Go.Proofs
open Go.Ab
noncomputable def gLaw23LadderMay.loop2 (v1 : List Int) (s2 : Int × Bool) : Option (Fl (Int × Bool) (Fl Bool Bool)) :=
  bif (ltI s2.1 (lenL v1)) then (
    need (InB s2.1 (lenL v1)) <|
    need (Under (ltI 0 s2.1) true (Under (pickB (ltI (nthI v1 s2.1) 0) true (ltI 1099511627776 (nthI v1 s2.1))) false (InB (subI .i64 s2.1 1) (lenL v1)))) <|
    bif (pickB (pickB (ltI (nthI v1 s2.1) 0) true (ltI 1099511627776 (nthI v1 s2.1))) true (pickB (ltI 0 s2.1) (ltI (nthI v1 s2.1) (nthI v1 (subI .i64 s2.1 1))) false)) then (
      some (.go ((addI .i64 s2.1 1), false))
    ) else (
      some (.go ((addI .i64 s2.1 1), s2.2))
    )
  ) else (
    some (.out (.go s2.2))
  )

noncomputable def gLaw23LadderMay.loop3 (v1 : List Int) (s3 : Int × Bool) : Option (Fl (Int × Bool) (Fl Bool Bool)) :=
  bif (ltI s3.1 (lenL v1)) then (
    need (InB s3.1 (lenL v1)) <|
    need (Under (ltI 0 s3.1) true (Under (pickB (ltI (nthI v1 s3.1) 0) true (ltI 1099511627776 (nthI v1 s3.1))) false (InB (subI .i64 s3.1 1) (lenL v1)))) <|
    bif (pickB (pickB (ltI (nthI v1 s3.1) 0) true (ltI 1099511627776 (nthI v1 s3.1))) true (pickB (ltI 0 s3.1) (ltI (nthI v1 s3.1) (nthI v1 (subI .i64 s3.1 1))) false)) then (
      some (.go ((addI .i64 s3.1 1), false))
    ) else (
      some (.go ((addI .i64 s3.1 1), s3.2))
    )
  ) else (
    some (.out (.go s3.2))
  )

noncomputable def gLaw23LadderMay (x0 : LadderConfig) (x1 : Int) (x2 : List Int) : Option Bool :=
  ((
    bif (ltI 5 (lenL x2)) then (
      need (CutB 0 5 (lenL x2)) <|
      some (.go (cutL x2 0 5))
    ) else (
      some (.go x2)
    )
    : Option (Fl (List Int) Bool)).bind fun f => flC f fun (v1 : List Int) =>
    ((gLadderNew x0 x1 v1)).bind fun r1 =>
    optC r1.1 (
      ((loopF (gLaw23LadderMay.loop2 v1) (0, (pickB (pickB (pickB (pickB (pickB (pickB (pickB (leI 1 x0.fDown) (leI x0.fDown 1048576) false) (leI 1 x0.fUp) false) (leI x0.fUp 1048576) false) (leI 0 x0.fSpare) false) (leI x0.fSpare 100) false) (leI 1 (lenL v1)) false) (leI (lenL v1) 3) false))).bind fun f => flC f fun (v2 : Bool) =>
        (gLaw23Awake).bind fun r2 =>
        bif (pickB (pickB (pickB r2 (eqB (eqI r1.2 0) v2) false) (eqB false v2) false) (pickB v2 true (eqI r1.2 5)) false) then (
          bif (notB v2) then (
            some true
          ) else (
            none
          )
        ) else (
          some false
        )
      )
    ) fun o1 => (
      ((loopF (gLaw23LadderMay.loop3 v1) (0, (pickB (pickB (pickB (pickB (pickB (pickB (pickB (leI 1 x0.fDown) (leI x0.fDown 1048576) false) (leI 1 x0.fUp) false) (leI x0.fUp 1048576) false) (leI 0 x0.fSpare) false) (leI x0.fSpare 100) false) (leI 1 (lenL v1)) false) (leI (lenL v1) 3) false))).bind fun f => flC f fun (v3 : Bool) =>
        (gLaw23Awake).bind fun r2 =>
        need (Under (notB v3) false (Under (pickB (pickB (pickB r2 (eqB (eqI r1.2 0) v3) false) (eqB true v3) false) (pickB v3 true (eqI r1.2 5)) false) true ((gLadderLadderAt o1).isSome = true))) <|
        need (Under (eqI ((gLadderLadderAt o1).getD dflt) (minI (maxI x1 0) (subI .i64 (lenL v1) 1))) true (Under (notB v3) false (Under (pickB (pickB (pickB r2 (eqB (eqI r1.2 0) v3) false) (eqB true v3) false) (pickB v3 true (eqI r1.2 5)) false) true ((gLadderLadderMoves o1).isSome = true)))) <|
        some (pickB (pickB (pickB (pickB r2 (eqB (eqI r1.2 0) v3) false) (eqB true v3) false) (pickB v3 true (eqI r1.2 5)) false) (pickB (notB v3) true (pickB (eqI ((gLadderLadderAt o1).getD dflt) (minI (maxI x1 0) (subI .i64 (lenL v1) 1))) (eqI ((gLadderLadderMoves o1).getD dflt) 0) false)) false)
      )
    )
  )
end Go.Proofs

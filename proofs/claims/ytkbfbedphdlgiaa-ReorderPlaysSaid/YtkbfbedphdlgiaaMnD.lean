/- What these functions compute, as plain functions. No condition. -/
import Derived.Test.YtkbfbedphdlgiaaTs
namespace Go.Proofs
open Go.Ab
noncomputable def gSlicesMinInt64Int64.loop2 (x0 : List Int) (s2 : Int × Int) : Option (Fl (Int × Int) (Fl Int Int)) :=
  bif (ltI s2.1 (lenL x0)) then (
    need (InB s2.1 (lenL x0)) <|
    some (.go ((addI .i64 s2.1 1), (minI s2.2 (nthI x0 s2.1))))
  ) else (
    some (.out (.go s2.2))
  )

noncomputable def gSlicesMinInt64Int64 (x0 : List Int) : Option Int :=
  ((
    bif (ltI (lenL x0) 1) then (
      none
    ) else (
      some (.go ())
    )
    : Option (Fl Unit Int)).bind fun f => flC f fun (_v1 : Unit) =>
    need (InB 0 (lenL x0)) <|
    ((loopF (gSlicesMinInt64Int64.loop2 x0) (1, (nthI x0 0))).bind fun f => flC f fun (v2 : Int) =>
      some v2
    )
  )
end Go.Proofs

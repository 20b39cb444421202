/- What these functions compute, as plain functions. No condition. -/
import Derived.Test.YtkbfbedphdlgiaaTs
import Derived.Test.YtkbfbedphdlgiaaRoD
import Derived.Test.YtkbfbedphdlgiaaRrD
import Derived.Test.YtkbfbedphdlgiaaWrD
namespace Go.Proofs
open Go.Ab
noncomputable def gLaw09ReorderPerm.loop1 (x0 : List Int) (s1 : Int × List Int × (List (Int × Int))) : Option (Fl (Int × List Int × (List (Int × Int))) (Fl (List Int × (List (Int × Int))) Bool)) :=
  bif (pickB (ltI s1.1 (lenL x0)) (ltI s1.1 60) false) then (
    ((
      need (InB s1.1 (lenL x0)) <|
      need (NonZ 60) <|
      bif (eqI (getM eqI (addI .i64 1 (remI (bitsOp .and .i64 (nthI x0 s1.1) 255) 60)) 0 (setM eqI (addI .i64 1 (remI (bitsOp .and .i64 (nthI x0 s1.1) 255) 60)) (addI .i64 (getM eqI (addI .i64 1 (remI (bitsOp .and .i64 (nthI x0 s1.1) 255) 60)) 0 s1.2.2) 1) s1.2.2)) 1) then (
        need (AppB (lenL s1.2.1) 1 8) <|
        some (.go (appL s1.2.1 [(addI .i64 1 (remI (bitsOp .and .i64 (nthI x0 s1.1) 255) 60))]))
      ) else (
        some (.go s1.2.1)
      )
      : Option (Fl (List Int) (Fl (Int × List Int × (List (Int × Int))) (Fl (List Int × (List (Int × Int))) Bool)))).bind fun f => flC f fun (v2 : List Int) =>
      some (.go ((addI .i64 s1.1 1), v2, (setM eqI (addI .i64 1 (remI (bitsOp .and .i64 (nthI x0 s1.1) 255) 60)) (addI .i64 (getM eqI (addI .i64 1 (remI (bitsOp .and .i64 (nthI x0 s1.1) 255) 60)) 0 s1.2.2) 1) s1.2.2)))
    )
  ) else (
    some (.out (.go (s1.2.1, s1.2.2)))
  )

noncomputable def gLaw09ReorderPerm.loop3 (v1 : List Int × (List (Int × Int))) (s3 : Int × List Int) : Option (Fl (Int × List Int) (Fl (List Int) Bool)) :=
  bif (leqI s3.1 60) then (
    ((
      bif (eqI (getM eqI s3.1 0 v1.2) 0) then (
        need (AppB (lenL s3.2) 1 8) <|
        some (.go (appL s3.2 [s3.1]))
      ) else (
        some (.go s3.2)
      )
      : Option (Fl (List Int) (Fl (Int × List Int) (Fl (List Int) Bool)))).bind fun f => flC f fun (v4 : List Int) =>
      some (.go ((addI .i64 s3.1 1), v4))
    )
  ) else (
    some (.out (.go s3.2))
  )

noncomputable def gLaw09ReorderPerm.loop6 (r4 : List Antiphonref09Thing × Int × ReorderBuffer) (s6 : Int × Int) : Option (Fl (Int × Int) (Fl Int (Fl (Int × Int × (List (Int × Antiphonref09Thing)) × ReorderConfig × Bool × Int × Int) (Fl (Int × (List (Int × Antiphonref09Thing)) × ReorderConfig × Bool × Int × Int) Bool)))) :=
  bif (ltI s6.1 (lenL r4.1)) then (
    need (InB s6.1 (lenL r4.1)) <|
    bif (neI ((nthI r4.1 s6.1).fAt) s6.2) then (
      some (.out (.out (.out (.out false))))
    ) else (
      some (.go ((addI .i64 s6.1 1), (addI .i64 s6.2 1)))
    )
  ) else (
    some (.out (.go s6.2))
  )

noncomputable def gLaw09ReorderPerm.loop5 (v3 : List Int) (s5 : Int × Int × (List (Int × Antiphonref09Thing)) × ReorderConfig × Bool × Int × Int) : Option (Fl (Int × Int × (List (Int × Antiphonref09Thing)) × ReorderConfig × Bool × Int × Int) (Fl (Int × (List (Int × Antiphonref09Thing)) × ReorderConfig × Bool × Int × Int) Bool)) :=
  bif (ltI s5.1 (lenL v3)) then (
    need (InB s5.1 (lenL v3)) <|
    ((gReorderBufferPut (ReorderBuffer.mk s5.2.2.2.1 s5.2.2.2.2.1 s5.2.2.2.2.2.1 s5.2.2.1 s5.2.2.2.2.2.2) (Antiphonref09Thing.mk (addI .i64 100 (nthI v3 s5.1)) ⟨#[]⟩ 0))).bind fun r4 =>
    bif (neI r4.2.1 0) then (
      some (.out (.out false))
    ) else (
      ((loopF (gLaw09ReorderPerm.loop6 r4) (0, s5.2.1)).bind fun f => flC f fun (v6 : Int) =>
        some (.go ((addI .i64 s5.1 1), v6, r4.2.2.fOf, r4.2.2.fConfig, r4.2.2.fBegun, r4.2.2.fNext, r4.2.2.fLost))
      )
    )
  ) else (
    some (.out (.go (s5.2.1, s5.2.2.1, s5.2.2.2.1, s5.2.2.2.2.1, s5.2.2.2.2.2.1, s5.2.2.2.2.2.2)))
  )

noncomputable def gLaw09ReorderPerm (x0 : List Int) : Option Bool :=
  (gLaw09Awake).bind fun r1 =>
  bif (notB r1) then (
    some false
  ) else (
    ((gReorderNew (ReorderConfig.mk 64 10))).bind fun r2 =>
    optC r2.1 (
      bif (neI r2.2 0) then (
        some false
      ) else (
        none
      )
    ) fun o1 => (
      bif (neI r2.2 0) then (
        some false
      ) else (
        ((gReorderBufferPut o1 (Antiphonref09Thing.mk 100 ⟨#[]⟩ 0))).bind fun r3 =>
        ((loopF (gLaw09ReorderPerm.loop1 x0) (0, [], [])).bind fun f => flC f fun (v1 : List Int × (List (Int × Int))) =>
          ((loopF (gLaw09ReorderPerm.loop3 v1) (1, v1.1)).bind fun f => flC f fun (v3 : List Int) =>
            ((loopF (gLaw09ReorderPerm.loop5 v3) (0, 101, r3.2.2.fOf, r3.2.2.fConfig, r3.2.2.fBegun, r3.2.2.fNext, r3.2.2.fLost)).bind fun f => flC f fun (v5 : Int × (List (Int × Antiphonref09Thing)) × ReorderConfig × Bool × Int × Int) =>
              ((gReorderBufferPut (ReorderBuffer.mk v5.2.2.1 v5.2.2.2.1 v5.2.2.2.2.1 v5.2.1 v5.2.2.2.2.2) (Antiphonref09Thing.mk 130 ⟨#[]⟩ 0))).bind fun r5 =>
              need (Under (eqI v5.1 161) true ((gReorderBufferLost r5.2.2).isSome = true)) <|
              need (Under (pickB (eqI v5.1 161) (eqI ((gReorderBufferLost r5.2.2).getD dflt) 0) false) true ((gReorderBufferLen r5.2.2).isSome = true)) <|
              some (pickB (pickB (pickB (eqI v5.1 161) (eqI ((gReorderBufferLost r5.2.2).getD dflt) 0) false) (eqI ((gReorderBufferLen r5.2.2).getD dflt) 0) false) (eqI r5.2.1 13) false)
            )
          )
        )
      )
    )
  )
end Go.Proofs

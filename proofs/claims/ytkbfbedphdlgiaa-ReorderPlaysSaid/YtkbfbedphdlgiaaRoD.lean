/- What these functions compute, as plain functions. No condition. -/
import Derived.Test.YtkbfbedphdlgiaaTs
namespace Go.Proofs
open Go.Ab
noncomputable def gReorderConfigCheck (x0 : ReorderConfig) : Option Int :=
  bif (pickB (pickB (pickB (ltI x0.fMost 1) true (ltI 1024 x0.fMost)) true (ltI x0.fWait 0)) true (ltI 1099511627776 x0.fWait)) then (
    some 5
  ) else (
    some 0
  )

noncomputable def gReorderNew (x0 : ReorderConfig) : Option (Option ReorderBuffer × Int) :=
  ((gReorderConfigCheck x0)).bind fun r1 =>
  bif (neI r1 0) then (
    some (none, r1)
  ) else (
    some ((some (ReorderBuffer.mk x0 false 0 [] 0)), 0)
  )

noncomputable def gReorderBufferLen (x0 : ReorderBuffer) : Option Int :=
  some (lenL x0.fOf)

noncomputable def gReorderBufferNext (x0 : ReorderBuffer) : Option (Int × Bool) :=
  some (x0.fNext, x0.fBegun)

noncomputable def gReorderBufferLost (x0 : ReorderBuffer) : Option Int :=
  some x0.fLost

noncomputable def gReorderBufferRun.loop1 (x0 : ReorderBuffer) (s1 : Nat × List Antiphonref09Thing × Int × (List (Int × Antiphonref09Thing))) : Option (Fl (Nat × List Antiphonref09Thing × Int × (List (Int × Antiphonref09Thing))) (Fl Unit (List Antiphonref09Thing × Nat × ReorderBuffer))) :=
  bif (notB (hasM eqI s1.2.2.1 s1.2.2.2)) then (
    some (.out (.out (s1.2.1, s1.1, (ReorderBuffer.mk x0.fConfig x0.fBegun s1.2.2.1 s1.2.2.2 x0.fLost))))
  ) else (
    need (AppB (lenL s1.2.1) 1 32) <|
    some (.go ((s1.1 + 1), (appL s1.2.1 [(getM eqI s1.2.2.1 (Antiphonref09Thing.mk 0 ⟨⟨[]⟩⟩ 0) s1.2.2.2)]), (addI .i64 s1.2.2.1 1), (delM eqI s1.2.2.1 s1.2.2.2)))
  )

noncomputable def gReorderBufferRun (x0 : ReorderBuffer) : Option (List Antiphonref09Thing × Nat × ReorderBuffer) :=
  ((loopF (gReorderBufferRun.loop1 x0) (0, [], x0.fNext, x0.fOf)).bind fun f => flC f fun (_v1 : Unit) =>
    none
  )
end Go.Proofs

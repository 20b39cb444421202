/- What these functions compute, as plain functions. No condition. -/
import Derived.Test.YtnoeflijefijcaaTs
import Derived.Test.YtnoeflijefijcaaKl
import Derived.Test.YtnoeflijefijcaaQuD
import Derived.Test.YtnoeflijefijcaaSh
import Derived.Test.YtnoeflijefijcaaM01
import Derived.Test.YtnoeflijefijcaaTy
section
namespace Go.Proofs
open Go.Ab
noncomputable def gCmpIsNaNInt (x0 : Int) : Option Bool :=
  some (neI x0 x0)

noncomputable def gCmpLessInt (x0 : Int) (x1 : Int) : Option Bool :=
  ((gCmpIsNaNInt x0)).bind fun r1 =>
  need (Under r1 true ((gCmpIsNaNInt x1).isSome = true)) <|
  some (pickB (pickB r1 (notB ((gCmpIsNaNInt x1).getD dflt)) false) true (ltI x0 x1))

noncomputable def gSlicesIsNaNInt (x0 : Int) : Option Bool :=
  some (neI x0 x0)

noncomputable def gSlicesBinarySearchIntInt.loop1 (x0 : List Int) (x1 : Int) (s1 : Int × Int) : Option (Fl (Int × Int) (Fl Int (Int × Bool))) :=
  bif (ltI s1.1 s1.2) then (
    need (NonN 1) <|
    need (InB (cvtI .i64 (shrI .u64 (cvtI .u64 (addI .i64 s1.1 s1.2)) 1)) (lenL x0)) <|
    ((gCmpLessInt (nthI x0 (cvtI .i64 (shrI .u64 (cvtI .u64 (addI .i64 s1.1 s1.2)) 1))) x1)).bind fun r1 =>
    bif r1 then (
      some (.go ((addI .i64 (cvtI .i64 (shrI .u64 (cvtI .u64 (addI .i64 s1.1 s1.2)) 1)) 1), s1.2))
    ) else (
      some (.go (s1.1, (cvtI .i64 (shrI .u64 (cvtI .u64 (addI .i64 s1.1 s1.2)) 1))))
    )
  ) else (
    some (.out (.go s1.1))
  )

noncomputable def gSlicesBinarySearchIntInt (x0 : List Int) (x1 : Int) : Option (Int × Bool) :=
  ((loopF (gSlicesBinarySearchIntInt.loop1 x0 x1) (0, (lenL x0))).bind fun f => flC f fun (v1 : Int) =>
    need (Under (ltI v1 (lenL x0)) true (InB v1 (lenL x0))) <|
    need (Under (eqI (nthI x0 v1) x1) false (Under (ltI v1 (lenL x0)) true (InB v1 (lenL x0)))) <|
    need (Under (eqI (nthI x0 v1) x1) false (Under (ltI v1 (lenL x0)) true ((gSlicesIsNaNInt (nthI x0 v1)).isSome = true))) <|
    need (Under ((gSlicesIsNaNInt (nthI x0 v1)).getD dflt) true (Under (eqI (nthI x0 v1) x1) false (Under (ltI v1 (lenL x0)) true ((gSlicesIsNaNInt x1).isSome = true)))) <|
    some (v1, (pickB (ltI v1 (lenL x0)) (pickB (eqI (nthI x0 v1) x1) true (pickB ((gSlicesIsNaNInt (nthI x0 v1)).getD dflt) ((gSlicesIsNaNInt x1).getD dflt) false)) false))
  )
end Go.Proofs
end
section

end
section

end
section
namespace Go.Proofs
open Go.Ab
noncomputable def gEgressOutIds.loop1 (x0 : EgressOut) (x1 : Bool) (s1 : Int × List Int) : Option (Fl (Int × List Int) (Fl (List Int) (List Int))) :=
  bif (ltI s1.1 (lenL (sortL (keysM x0.fFlows)))) then (
    need (InB s1.1 (lenL (sortL (keysM x0.fFlows)))) <|
    optC (findM eqI (nthI (sortL (keysM x0.fFlows)) s1.1) x0.fFlows) (
      bif (eqB false x1) then (
        none
      ) else (
        some (.go ((addI .i64 s1.1 1), s1.2))
      )
    ) fun z3 => (
      need (Under (eqB z3.fVideo x1) true ((gQueueQueueLen z3.fQueue).isSome = true)) <|
      bif (pickB (eqB z3.fVideo x1) (ltI 0 ((gQueueQueueLen z3.fQueue).getD dflt)) false) then (
        need (AppB (lenL s1.2) 1 8) <|
        some (.go ((addI .i64 s1.1 1), (appL s1.2 [(nthI (sortL (keysM x0.fFlows)) s1.1)])))
      ) else (
        some (.go ((addI .i64 s1.1 1), s1.2))
      )
    )
  ) else (
    some (.out (.go s1.2))
  )

noncomputable def gEgressOutIds (x0 : EgressOut) (x1 : Bool) : Option (List Int) :=
  need (KeysB (keysM x0.fFlows)) <|
  ((loopF (gEgressOutIds.loop1 x0 x1) (0, [])).bind fun f => flC f fun (v1 : List Int) =>
    some v1
  )

noncomputable def gEgressOutSound1 (x0 : Int) (x1 : Int) (x2 : EgressOut) : Option Int :=
  optC (findM eqI x0 x2.fFlows) (
    none
  ) fun z1 => (
    ((gQueueQueueFirst z1.fQueue)).bind fun r1 =>
    optC (findM eqI x1 x2.fFlows) (
      none
    ) fun z2 => (
      ((gQueueQueueFirst z2.fQueue)).bind fun r2 =>
      some (subI .i64 r1.1.fTick r2.1.fTick)
    )
  )

noncomputable def gSlicesMinFuncIntIntAtEgressOutSound1.loop2 (x0 : List Int) (x1c0 : EgressOut) (s2 : Int × Int) : Option (Fl (Int × Int) (Fl Int Int)) :=
  bif (ltI s2.1 (lenL x0)) then (
    ((
      need (InB s2.1 (lenL x0)) <|
      ((gEgressOutSound1 (nthI x0 s2.1) s2.2 x1c0)).bind fun r1 =>
      bif (ltI r1 0) then (
        need (InB s2.1 (lenL x0)) <|
        some (.go (nthI x0 s2.1))
      ) else (
        some (.go s2.2)
      )
      : Option (Fl Int (Fl (Int × Int) (Fl Int Int)))).bind fun f => flC f fun (v3 : Int) =>
      some (.go ((addI .i64 s2.1 1), v3))
    )
  ) else (
    some (.out (.go s2.2))
  )

noncomputable def gSlicesMinFuncIntIntAtEgressOutSound1 (x0 : List Int) (x1c0 : EgressOut) : Option Int :=
  ((
    bif (ltI (lenL x0) 1) then (
      none
    ) else (
      some (.go ())
    )
    : Option (Fl Unit Int)).bind fun f => flC f fun (_v1 : Unit) =>
    need (InB 0 (lenL x0)) <|
    ((loopF (gSlicesMinFuncIntIntAtEgressOutSound1.loop2 x0 x1c0) (1, (nthI x0 0))).bind fun f => flC f fun (v2 : Int) =>
      some v2
    )
  )

noncomputable def gEgressOutSound (x0 : EgressOut) (x1 : List Int) : Option Int :=
  ((gSlicesMinFuncIntIntAtEgressOutSound1 x1 x0)).bind fun r1 =>
  some r1
end Go.Proofs
end
section
namespace Go.Proofs
open Go.Ab Go.Shelf
theorem libKeys.gMapsKeysMapIntEgressFlowIntEgressFlow.ok : SpecOk Try.prog 36 (keysS 59) :=
  keys_ok Try.keysAE rfl rfl (enters_of Try.func36 (by kernel_rfl) rfl)
theorem Try.sortsE (m : Nat) : AnyZI.SortsIn Try.prog Try.sortedAD_ren Fence.wide m :=
  ⟨fun blk off cap ss W hH hblk hsz => callsIn_wide.2 (AnyM.slices_Sort_int Try.sortAD blk off cap ss W hH hblk hsz),
   fun p cap W => callsIn_wide.2 (AnyM.slices_Sort_int_none Try.sortAD p cap W)⟩
theorem libSorted.gSortedMapIntEgressFlowIntEgressFlow1.ok : SpecOk Try.prog 35 (sortedS 59) :=
  sorted_ok Try.sortedAD { Try.keysAE with } rfl rfl (enters_of Try.func35 (by kernel_rfl) rfl) Try.sortsE (enters_of Try.func58 (by kernel_rfl) rfl) (enters_of Try.func59 (by kernel_rfl) rfl)
end Go.Proofs
end
section
namespace Go.Proofs
open Go.Ab
end Go.Proofs
end

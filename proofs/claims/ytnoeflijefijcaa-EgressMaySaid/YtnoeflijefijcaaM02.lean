/- What these functions compute, as plain functions. No condition. -/
import Derived.Test.YtnoeflijefijcaaTs
import Derived.Test.YtnoeflijefijcaaEaD
import Derived.Test.YtnoeflijefijcaaEfD
import Derived.Test.YtnoeflijefijcaaM04
import Derived.Test.YtnoeflijefijcaaSh
import Derived.Test.YtnoeflijefijcaaYr
section
namespace Go.Proofs
open Go.Ab
noncomputable def gLaw20EgressMay (x0 : EgressConfig) (x1 : Int) (x2 : Int) : Option Bool :=
  ((gEgressNew x0)).bind fun r1 =>
  optC r1.1 (
    (gLaw20Awake).bind fun r2 =>
    need (Under (pickB (pickB (notB r2) true (neB (eqI r1.2 0) (pickB (pickB (pickB (pickB (pickB (pickB (pickB (pickB (pickB (leqI 1 x0.fFrames) (leqI x0.fFrames 1024) false) (leqI 1 x0.fBytes) false) (leqI x0.fBytes 16777216) false) (leqI 1 x0.fAge) false) (leqI x0.fAge 1099511627776) false) (leqI 1 x0.fMost) false) (leqI x0.fMost 16777216) false) (leqI 1 x0.fGuard) false) (leqI x0.fGuard 1024) false))) true (neB false (pickB (pickB (pickB (pickB (pickB (pickB (pickB (pickB (pickB (leqI 1 x0.fFrames) (leqI x0.fFrames 1024) false) (leqI 1 x0.fBytes) false) (leqI x0.fBytes 16777216) false) (leqI 1 x0.fAge) false) (leqI x0.fAge 1099511627776) false) (leqI 1 x0.fMost) false) (leqI x0.fMost 16777216) false) (leqI 1 x0.fGuard) false) (leqI x0.fGuard 1024) false))) false ((gEgressConfigCheck x0).isSome = true)) <|
    bif (pickB (pickB (pickB (notB r2) true (neB (eqI r1.2 0) (pickB (pickB (pickB (pickB (pickB (pickB (pickB (pickB (pickB (leqI 1 x0.fFrames) (leqI x0.fFrames 1024) false) (leqI 1 x0.fBytes) false) (leqI x0.fBytes 16777216) false) (leqI 1 x0.fAge) false) (leqI x0.fAge 1099511627776) false) (leqI 1 x0.fMost) false) (leqI x0.fMost 16777216) false) (leqI 1 x0.fGuard) false) (leqI x0.fGuard 1024) false))) true (neB false (pickB (pickB (pickB (pickB (pickB (pickB (pickB (pickB (pickB (leqI 1 x0.fFrames) (leqI x0.fFrames 1024) false) (leqI 1 x0.fBytes) false) (leqI x0.fBytes 16777216) false) (leqI 1 x0.fAge) false) (leqI x0.fAge 1099511627776) false) (leqI 1 x0.fMost) false) (leqI x0.fMost 16777216) false) (leqI 1 x0.fGuard) false) (leqI x0.fGuard 1024) false))) true (neI ((gEgressConfigCheck x0).getD dflt) r1.2)) then (
      some false
    ) else (
      bif (notB (pickB (pickB (pickB (pickB (pickB (pickB (pickB (pickB (pickB (leqI 1 x0.fFrames) (leqI x0.fFrames 1024) false) (leqI 1 x0.fBytes) false) (leqI x0.fBytes 16777216) false) (leqI 1 x0.fAge) false) (leqI x0.fAge 1099511627776) false) (leqI 1 x0.fMost) false) (leqI x0.fMost 16777216) false) (leqI 1 x0.fGuard) false) (leqI x0.fGuard 1024) false)) then (
        some (eqI r1.2 5)
      ) else (
        none
      )
    )
  ) fun o1 => (
    (gLaw20Awake).bind fun r2 =>
    need (Under (pickB (pickB (notB r2) true (neB (eqI r1.2 0) (pickB (pickB (pickB (pickB (pickB (pickB (pickB (pickB (pickB (leqI 1 x0.fFrames) (leqI x0.fFrames 1024) false) (leqI 1 x0.fBytes) false) (leqI x0.fBytes 16777216) false) (leqI 1 x0.fAge) false) (leqI x0.fAge 1099511627776) false) (leqI 1 x0.fMost) false) (leqI x0.fMost 16777216) false) (leqI 1 x0.fGuard) false) (leqI x0.fGuard 1024) false))) true (neB true (pickB (pickB (pickB (pickB (pickB (pickB (pickB (pickB (pickB (leqI 1 x0.fFrames) (leqI x0.fFrames 1024) false) (leqI 1 x0.fBytes) false) (leqI x0.fBytes 16777216) false) (leqI 1 x0.fAge) false) (leqI x0.fAge 1099511627776) false) (leqI 1 x0.fMost) false) (leqI x0.fMost 16777216) false) (leqI 1 x0.fGuard) false) (leqI x0.fGuard 1024) false))) false ((gEgressConfigCheck x0).isSome = true)) <|
    bif (pickB (pickB (pickB (notB r2) true (neB (eqI r1.2 0) (pickB (pickB (pickB (pickB (pickB (pickB (pickB (pickB (pickB (leqI 1 x0.fFrames) (leqI x0.fFrames 1024) false) (leqI 1 x0.fBytes) false) (leqI x0.fBytes 16777216) false) (leqI 1 x0.fAge) false) (leqI x0.fAge 1099511627776) false) (leqI 1 x0.fMost) false) (leqI x0.fMost 16777216) false) (leqI 1 x0.fGuard) false) (leqI x0.fGuard 1024) false))) true (neB true (pickB (pickB (pickB (pickB (pickB (pickB (pickB (pickB (pickB (leqI 1 x0.fFrames) (leqI x0.fFrames 1024) false) (leqI 1 x0.fBytes) false) (leqI x0.fBytes 16777216) false) (leqI 1 x0.fAge) false) (leqI x0.fAge 1099511627776) false) (leqI 1 x0.fMost) false) (leqI x0.fMost 16777216) false) (leqI 1 x0.fGuard) false) (leqI x0.fGuard 1024) false))) true (neI ((gEgressConfigCheck x0).getD dflt) r1.2)) then (
      some false
    ) else (
      bif (notB (pickB (pickB (pickB (pickB (pickB (pickB (pickB (pickB (pickB (leqI 1 x0.fFrames) (leqI x0.fFrames 1024) false) (leqI 1 x0.fBytes) false) (leqI x0.fBytes 16777216) false) (leqI 1 x0.fAge) false) (leqI x0.fAge 1099511627776) false) (leqI 1 x0.fMost) false) (leqI x0.fMost 16777216) false) (leqI 1 x0.fGuard) false) (leqI x0.fGuard 1024) false)) then (
        some (eqI r1.2 5)
      ) else (
        ((gEgressOutAdd o1 x1 true x2)).bind fun r3 =>
        ((gEgressOutAdd r3.2 x1 false x2)).bind fun r4 =>
        bif (pickB (ltI x2 x0.fMost) true (ltI 16777216 x2)) then (
          some (pickB (eqI r3.1 5) (eqI r4.1 0) false)
        ) else (
          need (Under (pickB (eqI r3.1 0) (eqI r4.1 10) false) true ((gEgressOutBroken r4.2 x1).isSome = true)) <|
          some (pickB (pickB (eqI r3.1 0) (eqI r4.1 10) false) ((gEgressOutBroken r4.2 x1).getD dflt) false)
        )
      )
    )
  )
end Go.Proofs
end
section
namespace Go.Proofs
open Go.Ab Go.Shelf
theorem libKeys.gMapsKeysMapIntIntIntInt.ok : SpecOk Try.prog 78 (keysS 93) :=
  keys_ok Try.keysAD rfl rfl (enters_of Try.func78 (by kernel_rfl) rfl)
theorem Try.sortsD (m : Nat) : AnyZI.SortsIn Try.prog Try.sortedAD_ren Fence.wide m :=
  ⟨fun blk off cap ss W hH hblk hsz => callsIn_wide.2 (AnyM.slices_Sort_int Try.sortAD blk off cap ss W hH hblk hsz),
   fun p cap W => callsIn_wide.2 (AnyM.slices_Sort_int_none Try.sortAD p cap W)⟩
theorem libSorted.gSlicesSortedInt.ok : SpecOk Try.prog 35 (sortedS 93) :=
  sorted_ok Try.sortedAD { Try.keysAD with } rfl rfl (enters_of Try.func35 (by kernel_rfl) rfl) Try.sortsD (enters_of Try.func58 (by kernel_rfl) rfl) (enters_of Try.func93 (by kernel_rfl) rfl)
end Go.Proofs
end
section
namespace Go.Proofs
open Go.Ab
abbrev AcT := Antiphonlaw20Act

section
variable {P : EgressOut} {X : RO} {t : Int} {n : Nat} {N : Int} {a : AcT}

end
end Go.Proofs
end

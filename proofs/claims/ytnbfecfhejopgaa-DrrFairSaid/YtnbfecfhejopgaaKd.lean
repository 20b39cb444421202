/- The library's functions on the keys of a map, in this program. No condition. -/
import Derived.Test.YtnbfecfhejopgaaKdD
import Derived.Test.YtnbfecfhejopgaaSh
namespace Go.Proofs
open Go.Ab Go.Shelf
theorem libKeys.gMapsKeysMapIntIntIntInt.ok : SpecOk Try.prog 12 (keysS 16) :=
  keys_ok Try.keysAD rfl rfl (enters_of Try.func12 (by kernel_rfl) rfl)
theorem Try.sortsD (m : Nat) : AnyZI.SortsIn Try.prog Try.sortedAD_ren Fence.wide m :=
  ⟨fun blk off cap ss W hH hblk hsz => callsIn_wide.2 (AnyM.slices_Sort_int Try.sortAD blk off cap ss W hH hblk hsz),
   fun p cap W => callsIn_wide.2 (AnyM.slices_Sort_int_none Try.sortAD p cap W)⟩
theorem libSorted.gSlicesSortedInt.ok : SpecOk Try.prog 11 (sortedS 16) :=
  sorted_ok Try.sortedAD { Try.keysAD with } rfl rfl (enters_of Try.func11 (by kernel_rfl) rfl) Try.sortsD (enters_of Try.func15 (by kernel_rfl) rfl) (enters_of Try.func16 (by kernel_rfl) rfl)
end Go.Proofs

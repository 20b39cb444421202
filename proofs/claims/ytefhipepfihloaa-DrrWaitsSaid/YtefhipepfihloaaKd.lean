/- The library's functions on the keys of a map, in this program. No condition. -/
import Derived.Test.YtefhipepfihloaaKdD
import Derived.Test.YtefhipepfihloaaSh
namespace Go.Proofs
open Go.Ab Go.Shelf
theorem libKeys.gMapsKeysMapIntIntIntInt.ok : SpecOk Try.prog 17 (keysS 21) :=
  keys_ok Try.keysAD rfl rfl (enters_of Try.func17 (by kernel_rfl) rfl)
theorem Try.sortsD (m : Nat) : AnyZI.SortsIn Try.prog Try.sortedAD_ren Fence.wide m :=
  ⟨fun blk off cap ss W hH hblk hsz => callsIn_wide.2 (AnyM.slices_Sort_int Try.sortAD blk off cap ss W hH hblk hsz),
   fun p cap W => callsIn_wide.2 (AnyM.slices_Sort_int_none Try.sortAD p cap W)⟩
theorem libSorted.gSlicesSortedInt.ok : SpecOk Try.prog 16 (sortedS 21) :=
  sorted_ok Try.sortedAD { Try.keysAD with } rfl rfl (enters_of Try.func16 (by kernel_rfl) rfl) Try.sortsD (enters_of Try.func20 (by kernel_rfl) rfl) (enters_of Try.func21 (by kernel_rfl) rfl)
end Go.Proofs

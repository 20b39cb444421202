/- The library's functions on the keys of a map, in this program. No condition. -/
import Derived.Test.YtkbfbedphdlgiaaKsD
import Derived.Test.YtkbfbedphdlgiaaSh
import Derived.Test.YtkbfbedphdlgiaaMn
import Derived.Test.YtkbfbedphdlgiaaMnP
namespace Go.Proofs
open Go.Ab Go.Shelf
theorem libKeys.gMapsKeysMapInt64ReorderThingInt64ReorderThing.ok : SpecOk Try.prog 23 (keysS 33) :=
  keys_ok Try.keysA rfl rfl (enters_of Try.func23 (by kernel_rfl) rfl)
theorem Try.sorts (m : Nat) : AnyZI.SortsIn Try.prog Try.sortedA_ren Fence.wide m :=
  ⟨fun blk off cap ss W hH hblk hsz => callsIn_wide.2 (AnyM.slices_Sort_int Try.sortA blk off cap ss W hH hblk hsz),
   fun p cap W => callsIn_wide.2 (AnyM.slices_Sort_int_none Try.sortA p cap W)⟩
theorem libSorted.gSlicesSortedInt64.ok : SpecOk Try.prog 22 (sortedS 33) :=
  sorted_ok Try.sortedA { Try.keysA with } rfl rfl (enters_of Try.func22 (by kernel_rfl) rfl) Try.sorts (enters_of Try.func32 (by kernel_rfl) rfl) (enters_of Try.func33 (by kernel_rfl) rfl)
theorem libCollect.gSlicesCollectInt64.ok : SpecOk Try.prog 31 (collectS 33) :=
  collect_ok Try.collectA { Try.keysA with } rfl rfl (enters_of Try.func31 (by kernel_rfl) rfl) (enters_of Try.func33 (by kernel_rfl) rfl)
theorem libMin.gSlicesMinInt64Int64.ok : SpecOk Try.prog 36 minS :=
  min_ok (fun l M hb => by
    have h := _root_.Go.Proofs.gSlicesMinInt64Int64.ok [.sl (l.map (Go.Ab.eNum IntKind.i64)) .no] M _ rfl
    intro g vs hM sm hr _
    have h2 := h g vs hM sm hr (by simp [min_plain hb])
    simpa [min_plain hb] using h2)
    (fun l l' hp hb => by
      have hne : l' ≠ [] := fun e => by rw [e] at hb; exact absurd hb.1 (by simp)
      exact minL_of (hp.mem_iff.2 (minL_mem hne)) fun x hx => minL_le x (hp.mem_iff.1 hx))
end Go.Proofs

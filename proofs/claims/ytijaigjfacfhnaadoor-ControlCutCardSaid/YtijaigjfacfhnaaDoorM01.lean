/- The library's bodies, as this program numbers them: laid by the kit's tool. No condition. -/
import Derived.Shelf.Unicode.PredsPay
import Derived.WalkKit
import Derived.Test.YtijaigjfacfhnaaDoorProg
import Derived.Test.YtijaigjfacfhnaaDoorRows
import Derived.Lib.LaidRTab
import Derived.Lib.LaidCase
import Derived.Lib.LaidTab
import Derived.PinnedBridge
import Derived.Lay
import Derived.LaidOnce
section
namespace Go.Proofs
open Go.Shelf
def Tryd.laysLetter_ren : Go.Shelf.Ren := ⟨fun | 200 => 68 | 261 => 74 | 311 => 75 | 312 => 76 | n => n, fun | 21 => 21 | 4 => 4 | 51 => 44 | 5 => 5 | 119 => 111 | 0 => 0 | 141 => 113 | 196 => 117 | 193 => 114 | 3 => 3 | 198 => 119 | 49 => 70 | 194 => 115 | 201 => 122 | 226 => 124 | 46 => 101 | 227 => 125 | n => n, fun | 7 => 0 | 8 => 1 | n => n⟩
theorem Tryd.laysLetter : Go.Proofs.Lays.n200 Tryd.prog Tryd.laysLetter_ren := {
  mixed := by kernel_rfl
  f200 := Tryd.func68.trans (congrArg some (by kernel_rfl))
  f261 := Tryd.func74.trans (congrArg some (by kernel_rfl))
  f311 := Tryd.func75.trans (congrArg some (by kernel_rfl))
  f312 := Tryd.func76.trans (congrArg some (by kernel_rfl))
  t0 := Tryd.underlying0
  a0 := Tryd.isAgg0
  z0 := Tryd.sizeOf0
  v0 := Tryd.zeroValue0
  t3 := Tryd.underlying3
  a3 := Tryd.isAgg3
  z3 := Tryd.sizeOf3
  v3 := Tryd.zeroValue3
  t4 := Tryd.underlying4
  a4 := Tryd.isAgg4
  z4 := Tryd.sizeOf4
  v4 := Tryd.zeroValue4
  t5 := Tryd.underlying5
  a5 := Tryd.isAgg5
  z5 := Tryd.sizeOf5
  v5 := Tryd.zeroValue5
  t21 := Tryd.underlying21
  a21 := Tryd.isAgg21
  z21 := Tryd.sizeOf21
  v21 := Tryd.zeroValue21
  t46 := Tryd.underlying101
  a46 := Tryd.isAgg101
  z46 := Tryd.sizeOf101
  v46 := Tryd.zeroValue101
  t49 := Tryd.underlying70
  a49 := Tryd.isAgg70
  z49 := Tryd.sizeOf70
  v49 := Tryd.zeroValue70
  t51 := Tryd.underlying44
  a51 := Tryd.isAgg44
  z51 := Tryd.sizeOf44
  v51 := Tryd.zeroValue44
  t119 := Tryd.underlying111
  a119 := Tryd.isAgg111
  z119 := Tryd.sizeOf111
  t141 := Tryd.underlying113
  a141 := Tryd.isAgg113
  z141 := Tryd.sizeOf113
  v141 := Tryd.zeroValue113
  t193 := Tryd.underlying114
  a193 := Tryd.isAgg114
  z193 := Tryd.sizeOf114
  v193 := Tryd.zeroValue114
  t194 := Tryd.underlying115
  a194 := Tryd.isAgg115
  z194 := Tryd.sizeOf115
  v194 := Tryd.zeroValue115
  t196 := Tryd.underlying117
  a196 := Tryd.isAgg117
  z196 := Tryd.sizeOf117
  v196 := Tryd.zeroValue117
  t198 := Tryd.underlying119
  a198 := Tryd.isAgg119
  z198 := Tryd.sizeOf119
  v198 := Tryd.zeroValue119
  t201 := Tryd.underlying122
  a201 := Tryd.isAgg122
  z201 := Tryd.sizeOf122
  v201 := Tryd.zeroValue122
  t226 := Tryd.underlying124
  a226 := Tryd.isAgg124
  z226 := Tryd.sizeOf124
  v226 := Tryd.zeroValue124
  t227 := Tryd.underlying125
  a227 := Tryd.isAgg125
  z227 := Tryd.sizeOf125
  v227 := Tryd.zeroValue125
  g7 := by kernel_rfl
  g8 := by kernel_rfl }
def Tryd.laysDigit_ren : Go.Shelf.Ren := ⟨fun | 198 => 69 | 261 => 74 | 311 => 75 | 312 => 76 | n => n, fun | 21 => 21 | 4 => 4 | 141 => 113 | 0 => 0 | 196 => 117 | 193 => 114 | 3 => 3 | 51 => 44 | 198 => 119 | 49 => 70 | 194 => 115 | 201 => 122 | 226 => 124 | 46 => 101 | 227 => 125 | n => n, fun | 5 => 2 | n => n⟩
theorem Tryd.laysDigit : Go.Proofs.Lays.n198 Tryd.prog Tryd.laysDigit_ren := {
  mixed := by kernel_rfl
  f198 := Tryd.func69.trans (congrArg some (by kernel_rfl))
  f261 := Tryd.func74.trans (congrArg some (by kernel_rfl))
  f311 := Tryd.func75.trans (congrArg some (by kernel_rfl))
  f312 := Tryd.func76.trans (congrArg some (by kernel_rfl))
  t0 := Tryd.underlying0
  a0 := Tryd.isAgg0
  z0 := Tryd.sizeOf0
  v0 := Tryd.zeroValue0
  t3 := Tryd.underlying3
  a3 := Tryd.isAgg3
  z3 := Tryd.sizeOf3
  v3 := Tryd.zeroValue3
  t4 := Tryd.underlying4
  a4 := Tryd.isAgg4
  z4 := Tryd.sizeOf4
  v4 := Tryd.zeroValue4
  t21 := Tryd.underlying21
  a21 := Tryd.isAgg21
  z21 := Tryd.sizeOf21
  v21 := Tryd.zeroValue21
  t46 := Tryd.underlying101
  a46 := Tryd.isAgg101
  z46 := Tryd.sizeOf101
  v46 := Tryd.zeroValue101
  t49 := Tryd.underlying70
  a49 := Tryd.isAgg70
  z49 := Tryd.sizeOf70
  v49 := Tryd.zeroValue70
  t51 := Tryd.underlying44
  a51 := Tryd.isAgg44
  z51 := Tryd.sizeOf44
  v51 := Tryd.zeroValue44
  t141 := Tryd.underlying113
  a141 := Tryd.isAgg113
  z141 := Tryd.sizeOf113
  v141 := Tryd.zeroValue113
  t193 := Tryd.underlying114
  a193 := Tryd.isAgg114
  z193 := Tryd.sizeOf114
  v193 := Tryd.zeroValue114
  t194 := Tryd.underlying115
  a194 := Tryd.isAgg115
  z194 := Tryd.sizeOf115
  v194 := Tryd.zeroValue115
  t196 := Tryd.underlying117
  a196 := Tryd.isAgg117
  z196 := Tryd.sizeOf117
  v196 := Tryd.zeroValue117
  t198 := Tryd.underlying119
  a198 := Tryd.isAgg119
  z198 := Tryd.sizeOf119
  v198 := Tryd.zeroValue119
  t201 := Tryd.underlying122
  a201 := Tryd.isAgg122
  z201 := Tryd.sizeOf122
  v201 := Tryd.zeroValue122
  t226 := Tryd.underlying124
  a226 := Tryd.isAgg124
  z226 := Tryd.sizeOf124
  v226 := Tryd.zeroValue124
  t227 := Tryd.underlying125
  a227 := Tryd.isAgg125
  z227 := Tryd.sizeOf125
  v227 := Tryd.zeroValue125
  g5 := by kernel_rfl }
end Go.Proofs
end
section
namespace Go.Ab
/-- Do the zero slices of what is built keep their tokens. -/
@[simp] def keepTok : Bool := true
open Go.Proofs Go.RowKit Go.Shelf Go.Lib
/-- What is known of the world throughout a call: Go's tables. -/
def fctF (w : World) : Prop :=
  Lib.TabIs Tryd.prog w "unicode.properties" .u8 Lib.propertiesTab ∧ RVar (Tryd.laysLetter_ren.g 8) letterT w ∧ RVar (Tryd.laysDigit_ren.g 5) digitT w
theorem Tryd.gProps : Tryd.prog.globalNamed "unicode.properties" = some (Tryd.laysLetter_ren.g 7) := by kernel_rfl
/-- Where the blocks stay, what is known stays. -/
theorem fctF_lasts {w : World} (h : fctF w) (w' : World) (hb : ∀ b, b < w.heap.size → w'.heap[b]? = w.heap[b]?) : fctF w' := by
  have hsz : w.heap.size ≤ w'.heap.size := by
    rcases Nat.lt_or_ge w'.heap.size w.heap.size with h | h
    · have := hb w'.heap.size h
      rw [Array.getElem?_eq_none (Nat.le_refl _), Array.getElem?_eq_getElem h] at this
      cases this
    · exact h
  have B : Below w.heap.size w { w with heap := w'.heap } := ⟨rfl, rfl, rfl, hsz, fun k hk => hb k hk⟩
  obtain ⟨h1, h2, h3⟩ := h
  have e1 := TabIs_below Tryd.gProps h1 B
  have e2 := RVar_below h2 B
  have e3 := RVar_below h3 B
  exact ⟨e1, e2, e3⟩
end Go.Ab
end
section
namespace Go.Proofs.YtijaigjfacfhnaaDoor
open Go.RowKit Go.Shelf Go.Lib Go.Ab Go.Proofs

theorem extraL : RExtra Tryd.prog Tryd.laysLetter_ren := ⟨by kernel_rfl, by kernel_rfl, by kernel_rfl, by kernel_rfl, by kernel_rfl, by kernel_rfl, by kernel_rfl, by kernel_rfl⟩
theorem extraD : RExtra Tryd.prog Tryd.laysDigit_ren := ⟨by kernel_rfl, by kernel_rfl, by kernel_rfl, by kernel_rfl, by kernel_rfl, by kernel_rfl, by kernel_rfl, by kernel_rfl⟩

def laidU : List (String × DataW Unit) := Rows.controlReadsRow.laid
theorem laidU_eq : laidU = [("unicode.properties", tabData .u8 propertiesTab), ("unicode.Digit", Go.Pinned.digit), ("unicode.Letter", Go.Pinned.letter)] := by kernel_rfl
theorem facts_here {w : World} (h : laidMetH Tryd.prog laidU w) : fctF w := by
  rw [MakeChecks.laidMetH_plain _ _ _ (by kernel_rfl), laidU_eq] at h
  refine ⟨?_, ?_, ?_⟩
  · exact Lib.tabIs_of_head (t := 111) (e := 5) (n := 256) Tryd.gProps (by kernel_rfl) (by kernel_rfl) (by kernel_rfl) (by kernel_rfl) (by kernel_rfl) h
  · exact rvar_of_reads { Tryd.laysLetter with } extraL (name := "unicode.Letter") (by kernel_rfl) (by kernel_rfl) (Go.Pinned.letter_eq ▸ Lib.laidMet.reads h (.tail _ (.tail _ (.head _))))
  · exact rvar_of_reads { Tryd.laysDigit with } extraD (name := "unicode.Digit") (by kernel_rfl) (by kernel_rfl) (Go.Pinned.digit_eq ▸ Lib.laidMet.reads h (.tail _ (.head _)))

theorem facts_laid (w : World) (h : laidMetH Tryd.prog laidU w) (w' : World) (hb : ∀ b, b < w.heap.size → w'.heap[b]? = w.heap[b]?) : fctF w' := fctF_lasts (facts_here h) w' hb
theorem laid_plain (w : World) : laidMetH Tryd.prog laidU w = laidMet Tryd.prog laidU w := MakeChecks.laidMetH_plain _ _ _ (by kernel_rfl)
theorem laid_world (os : Os) (args : Array Value) : laidMetH Tryd.prog laidU ((World.laidAll Tryd.prog os laidU).forCall (fun _ _ => 0) ⟨#[], args, []⟩).memory := by
  rw [laid_plain]
  exact laidMet_laidAll _ (by kernel_rfl) (by kernel_rfl)
theorem laid_shape (os : Os) (args : Array Value) : ((World.laidAll Tryd.prog os laidU).forCall (fun _ _ => 0) ⟨#[], args, []⟩).Shaped Tryd.prog := World.shaped_of_ZipB (by kernel_rfl) (by kernel_rfl)
end Go.Proofs.YtijaigjfacfhnaaDoor
end

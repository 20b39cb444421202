/- The library's bodies, as this program numbers them: laid by the kit's tool. No condition. -/
import Derived.Shelf.Unicode.PredsPay
import Derived.Shelf.Strings.CaseAny
import Derived.WalkKit
import Derived.Test.YtefdnbpigfojcaaDoorProg
import Derived.Test.YtefdnbpigfojcaaDoorRows
import Derived.Lib.LaidRTab
import Derived.Lib.LaidCase
import Derived.Lib.LaidTab
import Derived.PinnedBridge
import Derived.Lay
import Derived.LaidOnce
section
namespace Go.Proofs
open Go.Shelf
def Tryd.laysLetter_ren : Go.Shelf.Ren := ⟨fun | 200 => 39 | 261 => 53 | 311 => 63 | 312 => 64 | n => n, fun | 21 => 21 | 4 => 4 | 51 => 100 | 5 => 5 | 119 => 101 | 0 => 0 | 141 => 103 | 196 => 118 | 193 => 115 | 3 => 3 | 198 => 121 | 49 => 119 | 194 => 116 | 201 => 124 | 226 => 147 | 46 => 112 | 227 => 148 | n => n, fun | 7 => 0 | 8 => 1 | n => n⟩
theorem Tryd.laysLetter : Go.Proofs.Lays.n200 Tryd.prog Tryd.laysLetter_ren := {
  mixed := by kernel_rfl
  f200 := Tryd.func39.trans (congrArg some (by kernel_rfl))
  f261 := Tryd.func53.trans (congrArg some (by kernel_rfl))
  f311 := Tryd.func63.trans (congrArg some (by kernel_rfl))
  f312 := Tryd.func64.trans (congrArg some (by kernel_rfl))
  t0 := Tryd.underlying0
  a0 := Tryd.isAgg0
  z0 := Tryd.sizeOf0
  v0 := Tryd.zeroValue0
  t3 := Tryd.underlying3
  a3 := Tryd.isAgg3
  z3 := Tryd.sizeOf3
  v3 := Tryd.zeroValue3
  t4 := Tryd.underlying4
  a4 := Tryd.isAgg4
  z4 := Tryd.sizeOf4
  v4 := Tryd.zeroValue4
  t5 := Tryd.underlying5
  a5 := Tryd.isAgg5
  z5 := Tryd.sizeOf5
  v5 := Tryd.zeroValue5
  t21 := Tryd.underlying21
  a21 := Tryd.isAgg21
  z21 := Tryd.sizeOf21
  v21 := Tryd.zeroValue21
  t46 := Tryd.underlying112
  a46 := Tryd.isAgg112
  z46 := Tryd.sizeOf112
  v46 := Tryd.zeroValue112
  t49 := Tryd.underlying119
  a49 := Tryd.isAgg119
  z49 := Tryd.sizeOf119
  v49 := Tryd.zeroValue119
  t51 := Tryd.underlying100
  a51 := Tryd.isAgg100
  z51 := Tryd.sizeOf100
  v51 := Tryd.zeroValue100
  t119 := Tryd.underlying101
  a119 := Tryd.isAgg101
  z119 := Tryd.sizeOf101
  t141 := Tryd.underlying103
  a141 := Tryd.isAgg103
  z141 := Tryd.sizeOf103
  v141 := Tryd.zeroValue103
  t193 := Tryd.underlying115
  a193 := Tryd.isAgg115
  z193 := Tryd.sizeOf115
  v193 := Tryd.zeroValue115
  t194 := Tryd.underlying116
  a194 := Tryd.isAgg116
  z194 := Tryd.sizeOf116
  v194 := Tryd.zeroValue116
  t196 := Tryd.underlying118
  a196 := Tryd.isAgg118
  z196 := Tryd.sizeOf118
  v196 := Tryd.zeroValue118
  t198 := Tryd.underlying121
  a198 := Tryd.isAgg121
  z198 := Tryd.sizeOf121
  v198 := Tryd.zeroValue121
  t201 := Tryd.underlying124
  a201 := Tryd.isAgg124
  z201 := Tryd.sizeOf124
  v201 := Tryd.zeroValue124
  t226 := Tryd.underlying147
  a226 := Tryd.isAgg147
  z226 := Tryd.sizeOf147
  v226 := Tryd.zeroValue147
  t227 := Tryd.underlying148
  a227 := Tryd.isAgg148
  z227 := Tryd.sizeOf148
  v227 := Tryd.zeroValue148
  g7 := by kernel_rfl
  g8 := by kernel_rfl }
def Tryd.laysDigit_ren : Go.Shelf.Ren := ⟨fun | 198 => 40 | 261 => 53 | 311 => 63 | 312 => 64 | n => n, fun | 21 => 21 | 4 => 4 | 141 => 103 | 0 => 0 | 196 => 118 | 193 => 115 | 3 => 3 | 51 => 100 | 198 => 121 | 49 => 119 | 194 => 116 | 201 => 124 | 226 => 147 | 46 => 112 | 227 => 148 | n => n, fun | 5 => 2 | n => n⟩
theorem Tryd.laysDigit : Go.Proofs.Lays.n198 Tryd.prog Tryd.laysDigit_ren := {
  mixed := by kernel_rfl
  f198 := Tryd.func40.trans (congrArg some (by kernel_rfl))
  f261 := Tryd.func53.trans (congrArg some (by kernel_rfl))
  f311 := Tryd.func63.trans (congrArg some (by kernel_rfl))
  f312 := Tryd.func64.trans (congrArg some (by kernel_rfl))
  t0 := Tryd.underlying0
  a0 := Tryd.isAgg0
  z0 := Tryd.sizeOf0
  v0 := Tryd.zeroValue0
  t3 := Tryd.underlying3
  a3 := Tryd.isAgg3
  z3 := Tryd.sizeOf3
  v3 := Tryd.zeroValue3
  t4 := Tryd.underlying4
  a4 := Tryd.isAgg4
  z4 := Tryd.sizeOf4
  v4 := Tryd.zeroValue4
  t21 := Tryd.underlying21
  a21 := Tryd.isAgg21
  z21 := Tryd.sizeOf21
  v21 := Tryd.zeroValue21
  t46 := Tryd.underlying112
  a46 := Tryd.isAgg112
  z46 := Tryd.sizeOf112
  v46 := Tryd.zeroValue112
  t49 := Tryd.underlying119
  a49 := Tryd.isAgg119
  z49 := Tryd.sizeOf119
  v49 := Tryd.zeroValue119
  t51 := Tryd.underlying100
  a51 := Tryd.isAgg100
  z51 := Tryd.sizeOf100
  v51 := Tryd.zeroValue100
  t141 := Tryd.underlying103
  a141 := Tryd.isAgg103
  z141 := Tryd.sizeOf103
  v141 := Tryd.zeroValue103
  t193 := Tryd.underlying115
  a193 := Tryd.isAgg115
  z193 := Tryd.sizeOf115
  v193 := Tryd.zeroValue115
  t194 := Tryd.underlying116
  a194 := Tryd.isAgg116
  z194 := Tryd.sizeOf116
  v194 := Tryd.zeroValue116
  t196 := Tryd.underlying118
  a196 := Tryd.isAgg118
  z196 := Tryd.sizeOf118
  v196 := Tryd.zeroValue118
  t198 := Tryd.underlying121
  a198 := Tryd.isAgg121
  z198 := Tryd.sizeOf121
  v198 := Tryd.zeroValue121
  t201 := Tryd.underlying124
  a201 := Tryd.isAgg124
  z201 := Tryd.sizeOf124
  v201 := Tryd.zeroValue124
  t226 := Tryd.underlying147
  a226 := Tryd.isAgg147
  z226 := Tryd.sizeOf147
  v226 := Tryd.zeroValue147
  t227 := Tryd.underlying148
  a227 := Tryd.isAgg148
  z227 := Tryd.sizeOf148
  v227 := Tryd.zeroValue148
  g5 := by kernel_rfl }
def Tryd.laysLower_ren : Go.Shelf.Ren := ⟨fun | 204 => 29 | 262 => 44 | 313 => 55 | 274 => 65 | 275 => 66 | n => n, fun | 21 => 21 | 4 => 4 | 3 => 3 | 162 => 106 | 203 => 104 | 160 => 126 | 46 => 112 | 0 => 0 | 208 => 152 | 51 => 100 | 206 => 150 | n => n, fun | 13 => 3 | n => n⟩
theorem Tryd.laysLower : Go.Proofs.Lays.n204 Tryd.prog Tryd.laysLower_ren := {
  mixed := by kernel_rfl
  f204 := Tryd.func29.trans (congrArg some (by kernel_rfl))
  f262 := Tryd.func44.trans (congrArg some (by kernel_rfl))
  f274 := Tryd.func65.trans (congrArg some (by kernel_rfl))
  f275 := Tryd.func66.trans (congrArg some (by kernel_rfl))
  f313 := Tryd.func55.trans (congrArg some (by kernel_rfl))
  t0 := Tryd.underlying0
  a0 := Tryd.isAgg0
  z0 := Tryd.sizeOf0
  v0 := Tryd.zeroValue0
  t3 := Tryd.underlying3
  a3 := Tryd.isAgg3
  z3 := Tryd.sizeOf3
  v3 := Tryd.zeroValue3
  t4 := Tryd.underlying4
  a4 := Tryd.isAgg4
  z4 := Tryd.sizeOf4
  v4 := Tryd.zeroValue4
  t21 := Tryd.underlying21
  a21 := Tryd.isAgg21
  z21 := Tryd.sizeOf21
  v21 := Tryd.zeroValue21
  t46 := Tryd.underlying112
  a46 := Tryd.isAgg112
  z46 := Tryd.sizeOf112
  v46 := Tryd.zeroValue112
  t51 := Tryd.underlying100
  a51 := Tryd.isAgg100
  z51 := Tryd.sizeOf100
  v51 := Tryd.zeroValue100
  t160 := Tryd.underlying126
  a160 := Tryd.isAgg126
  z160 := Tryd.sizeOf126
  v160 := Tryd.zeroValue126
  t162 := Tryd.underlying106
  a162 := Tryd.isAgg106
  z162 := Tryd.sizeOf106
  v162 := Tryd.zeroValue106
  t203 := Tryd.underlying104
  a203 := Tryd.isAgg104
  z203 := Tryd.sizeOf104
  v203 := Tryd.zeroValue104
  t206 := Tryd.underlying150
  a206 := Tryd.isAgg150
  z206 := Tryd.sizeOf150
  v206 := Tryd.zeroValue150
  t208 := Tryd.underlying152
  a208 := Tryd.isAgg152
  z208 := Tryd.sizeOf152
  v208 := Tryd.zeroValue152
  g13 := by kernel_rfl }
end Go.Proofs
end
section
namespace Go.Ab
/-- Do the zero slices of what is built keep their tokens. -/
@[simp] def keepTok : Bool := true
open Go.Proofs Go.RowKit Go.Shelf Go.Lib
/-- What is known of the world throughout a call: Go's tables. -/
def fctF (w : World) : Prop :=
  Lib.TabIs Tryd.prog w "unicode.properties" .u8 Lib.propertiesTab ∧ RVar (Tryd.laysLetter_ren.g 8) letterT w ∧ RVar (Tryd.laysDigit_ren.g 5) digitT w ∧ CaseVar (Tryd.laysLower_ren.g 13) caseA w
theorem Tryd.gProps : Tryd.prog.globalNamed "unicode.properties" = some (Tryd.laysLetter_ren.g 7) := by kernel_rfl
/-- Where the blocks stay, what is known stays. -/
theorem fctF_lasts {w : World} (h : fctF w) (w' : World) (hb : ∀ b, b < w.heap.size → w'.heap[b]? = w.heap[b]?) : fctF w' := by
  have hsz : w.heap.size ≤ w'.heap.size := by
    rcases Nat.lt_or_ge w'.heap.size w.heap.size with h | h
    · have := hb w'.heap.size h
      rw [Array.getElem?_eq_none (Nat.le_refl _), Array.getElem?_eq_getElem h] at this
      cases this
    · exact h
  have B : Below w.heap.size w { w with heap := w'.heap } := ⟨rfl, rfl, rfl, hsz, fun k hk => hb k hk⟩
  obtain ⟨h1, h2, h3, h4⟩ := h
  have e1 := TabIs_below Tryd.gProps h1 B
  have e2 := RVar_below h2 B
  have e3 := RVar_below h3 B
  have e4 := CaseVar_below h4 B
  exact ⟨e1, e2, e3, e4⟩
end Go.Ab
end
section
namespace Go.Proofs.YtefdnbpigfojcaaDoor
open Go.RowKit Go.Shelf Go.Lib Go.Ab Go.Proofs

theorem extraL : RExtra Tryd.prog Tryd.laysLetter_ren := ⟨by kernel_rfl, by kernel_rfl, by kernel_rfl, by kernel_rfl, by kernel_rfl, by kernel_rfl, by kernel_rfl, by kernel_rfl⟩
theorem extraD : RExtra Tryd.prog Tryd.laysDigit_ren := ⟨by kernel_rfl, by kernel_rfl, by kernel_rfl, by kernel_rfl, by kernel_rfl, by kernel_rfl, by kernel_rfl, by kernel_rfl⟩
theorem extraC : CaseExtra Tryd.prog Tryd.laysLower_ren := ⟨by kernel_rfl, by kernel_rfl, by kernel_rfl, by kernel_rfl, by kernel_rfl, by kernel_rfl⟩
def laidU : List (String × DataW Unit) := Rows.roomPlaysRow.laid
theorem laidU_eq : laidU = [("unicode.properties", tabData .u8 propertiesTab), ("unicode.CaseRanges", Go.Pinned.caseRanges), ("unicode.Digit", Go.Pinned.digit), ("unicode.Letter", Go.Pinned.letter)] := by kernel_rfl
theorem facts_here {w : World} (h : laidMetH Tryd.prog laidU w) : fctF w := by
  rw [MakeChecks.laidMetH_plain _ _ _ (by kernel_rfl), laidU_eq] at h
  refine ⟨?_, ?_, ?_, ?_⟩
  · exact Lib.tabIs_of_head (t := 101) (e := 5) (n := 256) Tryd.gProps (by kernel_rfl) (by kernel_rfl) (by kernel_rfl) (by kernel_rfl) (by kernel_rfl) h
  · exact rvar_of_reads { Tryd.laysLetter with } extraL (name := "unicode.Letter") (by kernel_rfl) (by kernel_rfl) (Go.Pinned.letter_eq ▸ Lib.laidMet.reads h (.tail _ (.tail _ (.tail _ (.head _)))))
  · exact rvar_of_reads { Tryd.laysDigit with } extraD (name := "unicode.Digit") (by kernel_rfl) (by kernel_rfl) (Go.Pinned.digit_eq ▸ Lib.laidMet.reads h (.tail _ (.tail _ (.head _))))
  · exact caseVar_of_reads { Tryd.laysLower with } (by kernel_rfl) extraC (Go.Pinned.caseRanges_eq ▸ Lib.laidMet.reads h (.tail _ (.head _)))
theorem facts_laid (w : World) (h : laidMetH Tryd.prog laidU w) (w' : World) (hb : ∀ b, b < w.heap.size → w'.heap[b]? = w.heap[b]?) : fctF w' := fctF_lasts (facts_here h) w' hb
theorem laid_plain (w : World) : laidMetH Tryd.prog laidU w = laidMet Tryd.prog laidU w := MakeChecks.laidMetH_plain _ _ _ (by kernel_rfl)
theorem laid_world (os : Os) (args : Array Value) : laidMetH Tryd.prog laidU ((World.laidAll Tryd.prog os laidU).forCall (fun _ _ => 0) ⟨#[], args, []⟩).memory := by
  rw [laid_plain]
  exact laidMet_laidAll _ (by kernel_rfl) (by kernel_rfl)
theorem laid_shape (os : Os) (args : Array Value) : ((World.laidAll Tryd.prog os laidU).forCall (fun _ _ => 0) ⟨#[], args, []⟩).Shaped Tryd.prog := World.shaped_of_ZipB (by kernel_rfl) (by kernel_rfl)
end Go.Proofs.YtefdnbpigfojcaaDoor
end

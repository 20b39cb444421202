import Derived.Shelf.Unicode.PredsPay
import Derived.Shelf.Strings.CaseAny
import Derived.WalkKit
import Derived.Test.YtoiieebljbhpbaaGreatDoorProg
import Derived.Test.YtoiieebljbhpbaaGreatDoorRows
import Derived.Lib.LaidRTab
import Derived.Lib.LaidCase
import Derived.Lib.LaidTab
import Derived.PinnedBridge
import Derived.Lay
import Derived.LaidOnce
section
namespace Go.Proofs
open Go.Shelf
def Tryz.laysLetter_ren : Go.Shelf.Ren := ⟨fun | 200 => 136 | 261 => 159 | 311 => 171 | 312 => 172 | n => n, fun | 21 => 21 | 4 => 4 | 51 => 54 | 5 => 5 | 119 => 239 | 0 => 0 | 141 => 241 | 196 => 258 | 193 => 255 | 3 => 3 | 198 => 260 | 49 => 87 | 194 => 256 | 201 => 263 | 226 => 280 | 46 => 132 | 227 => 281 | n => n, fun | 7 => 0 | 8 => 1 | n => n⟩
theorem Tryz.laysLetter : Go.Proofs.Lays.n200 Tryz.prog Tryz.laysLetter_ren := {
 mixed := by kernel_rfl
 f200 := Tryz.func136.trans (congrArg some (by kernel_rfl))
 f261 := Tryz.func159.trans (congrArg some (by kernel_rfl))
 f311 := Tryz.func171.trans (congrArg some (by kernel_rfl))
 f312 := Tryz.func172.trans (congrArg some (by kernel_rfl))
 t0 := Tryz.underlying0
 a0 := Tryz.isAgg0
 z0 := Tryz.sizeOf0
 v0 := Tryz.zeroValue0
 t3 := Tryz.underlying3
 a3 := Tryz.isAgg3
 z3 := Tryz.sizeOf3
 v3 := Tryz.zeroValue3
 t4 := Tryz.underlying4
 a4 := Tryz.isAgg4
 z4 := Tryz.sizeOf4
 v4 := Tryz.zeroValue4
 t5 := Tryz.underlying5
 a5 := Tryz.isAgg5
 z5 := Tryz.sizeOf5
 v5 := Tryz.zeroValue5
 t21 := Tryz.underlying21
 a21 := Tryz.isAgg21
 z21 := Tryz.sizeOf21
 v21 := Tryz.zeroValue21
 t46 := Tryz.underlying132
 a46 := Tryz.isAgg132
 z46 := Tryz.sizeOf132
 v46 := Tryz.zeroValue132
 t49 := Tryz.underlying87
 a49 := Tryz.isAgg87
 z49 := Tryz.sizeOf87
 v49 := Tryz.zeroValue87
 t51 := Tryz.underlying54
 a51 := Tryz.isAgg54
 z51 := Tryz.sizeOf54
 v51 := Tryz.zeroValue54
 t119 := Tryz.underlying239
 a119 := Tryz.isAgg239
 z119 := Tryz.sizeOf239
 t141 := Tryz.underlying241
 a141 := Tryz.isAgg241
 z141 := Tryz.sizeOf241
 v141 := Tryz.zeroValue241
 t193 := Tryz.underlying255
 a193 := Tryz.isAgg255
 z193 := Tryz.sizeOf255
 v193 := Tryz.zeroValue255
 t194 := Tryz.underlying256
 a194 := Tryz.isAgg256
 z194 := Tryz.sizeOf256
 v194 := Tryz.zeroValue256
 t196 := Tryz.underlying258
 a196 := Tryz.isAgg258
 z196 := Tryz.sizeOf258
 v196 := Tryz.zeroValue258
 t198 := Tryz.underlying260
 a198 := Tryz.isAgg260
 z198 := Tryz.sizeOf260
 v198 := Tryz.zeroValue260
 t201 := Tryz.underlying263
 a201 := Tryz.isAgg263
 z201 := Tryz.sizeOf263
 v201 := Tryz.zeroValue263
 t226 := Tryz.underlying280
 a226 := Tryz.isAgg280
 z226 := Tryz.sizeOf280
 v226 := Tryz.zeroValue280
 t227 := Tryz.underlying281
 a227 := Tryz.isAgg281
 z227 := Tryz.sizeOf281
 v227 := Tryz.zeroValue281
 g7 := by kernel_rfl
 g8 := by kernel_rfl }
def Tryz.laysDigit_ren : Go.Shelf.Ren := ⟨fun | 198 => 137 | 261 => 159 | 311 => 171 | 312 => 172 | n => n, fun | 21 => 21 | 4 => 4 | 141 => 241 | 0 => 0 | 196 => 258 | 193 => 255 | 3 => 3 | 51 => 54 | 198 => 260 | 49 => 87 | 194 => 256 | 201 => 263 | 226 => 280 | 46 => 132 | 227 => 281 | n => n, fun | 5 => 2 | n => n⟩
theorem Tryz.laysDigit : Go.Proofs.Lays.n198 Tryz.prog Tryz.laysDigit_ren := {
 mixed := by kernel_rfl
 f198 := Tryz.func137.trans (congrArg some (by kernel_rfl))
 f261 := Tryz.func159.trans (congrArg some (by kernel_rfl))
 f311 := Tryz.func171.trans (congrArg some (by kernel_rfl))
 f312 := Tryz.func172.trans (congrArg some (by kernel_rfl))
 t0 := Tryz.underlying0
 a0 := Tryz.isAgg0
 z0 := Tryz.sizeOf0
 v0 := Tryz.zeroValue0
 t3 := Tryz.underlying3
 a3 := Tryz.isAgg3
 z3 := Tryz.sizeOf3
 v3 := Tryz.zeroValue3
 t4 := Tryz.underlying4
 a4 := Tryz.isAgg4
 z4 := Tryz.sizeOf4
 v4 := Tryz.zeroValue4
 t21 := Tryz.underlying21
 a21 := Tryz.isAgg21
 z21 := Tryz.sizeOf21
 v21 := Tryz.zeroValue21
 t46 := Tryz.underlying132
 a46 := Tryz.isAgg132
 z46 := Tryz.sizeOf132
 v46 := Tryz.zeroValue132
 t49 := Tryz.underlying87
 a49 := Tryz.isAgg87
 z49 := Tryz.sizeOf87
 v49 := Tryz.zeroValue87
 t51 := Tryz.underlying54
 a51 := Tryz.isAgg54
 z51 := Tryz.sizeOf54
 v51 := Tryz.zeroValue54
 t141 := Tryz.underlying241
 a141 := Tryz.isAgg241
 z141 := Tryz.sizeOf241
 v141 := Tryz.zeroValue241
 t193 := Tryz.underlying255
 a193 := Tryz.isAgg255
 z193 := Tryz.sizeOf255
 v193 := Tryz.zeroValue255
 t194 := Tryz.underlying256
 a194 := Tryz.isAgg256
 z194 := Tryz.sizeOf256
 v194 := Tryz.zeroValue256
 t196 := Tryz.underlying258
 a196 := Tryz.isAgg258
 z196 := Tryz.sizeOf258
 v196 := Tryz.zeroValue258
 t198 := Tryz.underlying260
 a198 := Tryz.isAgg260
 z198 := Tryz.sizeOf260
 v198 := Tryz.zeroValue260
 t201 := Tryz.underlying263
 a201 := Tryz.isAgg263
 z201 := Tryz.sizeOf263
 v201 := Tryz.zeroValue263
 t226 := Tryz.underlying280
 a226 := Tryz.isAgg280
 z226 := Tryz.sizeOf280
 v226 := Tryz.zeroValue280
 t227 := Tryz.underlying281
 a227 := Tryz.isAgg281
 z227 := Tryz.sizeOf281
 v227 := Tryz.zeroValue281
 g5 := by kernel_rfl }
def Tryz.laysLower_ren : Go.Shelf.Ren := ⟨fun | 204 => 128 | 262 => 146 | 313 => 165 | 274 => 191 | 275 => 192 | n => n, fun | 21 => 21 | 4 => 4 | 3 => 3 | 162 => 248 | 203 => 246 | 160 => 275 | 46 => 132 | 0 => 0 | 208 => 289 | 51 => 54 | 206 => 287 | n => n, fun | 13 => 3 | n => n⟩
theorem Tryz.laysLower : Go.Proofs.Lays.n204 Tryz.prog Tryz.laysLower_ren := {
 mixed := by kernel_rfl
 f204 := Tryz.func128.trans (congrArg some (by kernel_rfl))
 f262 := Tryz.func146.trans (congrArg some (by kernel_rfl))
 f274 := Tryz.func191.trans (congrArg some (by kernel_rfl))
 f275 := Tryz.func192.trans (congrArg some (by kernel_rfl))
 f313 := Tryz.func165.trans (congrArg some (by kernel_rfl))
 t0 := Tryz.underlying0
 a0 := Tryz.isAgg0
 z0 := Tryz.sizeOf0
 v0 := Tryz.zeroValue0
 t3 := Tryz.underlying3
 a3 := Tryz.isAgg3
 z3 := Tryz.sizeOf3
 v3 := Tryz.zeroValue3
 t4 := Tryz.underlying4
 a4 := Tryz.isAgg4
 z4 := Tryz.sizeOf4
 v4 := Tryz.zeroValue4
 t21 := Tryz.underlying21
 a21 := Tryz.isAgg21
 z21 := Tryz.sizeOf21
 v21 := Tryz.zeroValue21
 t46 := Tryz.underlying132
 a46 := Tryz.isAgg132
 z46 := Tryz.sizeOf132
 v46 := Tryz.zeroValue132
 t51 := Tryz.underlying54
 a51 := Tryz.isAgg54
 z51 := Tryz.sizeOf54
 v51 := Tryz.zeroValue54
 t160 := Tryz.underlying275
 a160 := Tryz.isAgg275
 z160 := Tryz.sizeOf275
 v160 := Tryz.zeroValue275
 t162 := Tryz.underlying248
 a162 := Tryz.isAgg248
 z162 := Tryz.sizeOf248
 v162 := Tryz.zeroValue248
 t203 := Tryz.underlying246
 a203 := Tryz.isAgg246
 z203 := Tryz.sizeOf246
 v203 := Tryz.zeroValue246
 t206 := Tryz.underlying287
 a206 := Tryz.isAgg287
 z206 := Tryz.sizeOf287
 v206 := Tryz.zeroValue287
 t208 := Tryz.underlying289
 a208 := Tryz.isAgg289
 z208 := Tryz.sizeOf289
 v208 := Tryz.zeroValue289
 g13 := by kernel_rfl }
end Go.Proofs
end
section
namespace Go.Ab
@[simp] def keepTok : Bool := true
open Go.Proofs Go.RowKit Go.Shelf Go.Lib
def fctF (w : World) : Prop :=
 Lib.TabIs Tryz.prog w "unicode.properties" .u8 Lib.propertiesTab ∧ RVar (Tryz.laysLetter_ren.g 8) letterT w ∧ RVar (Tryz.laysDigit_ren.g 5) digitT w ∧ CaseVar (Tryz.laysLower_ren.g 13) caseA w
theorem Tryz.gbe : Tryz.prog.globalNamed "unicode.properties" = some (Tryz.laysLetter_ren.g 7) := by kernel_rfl
theorem fctF_lasts {w : World} (h : fctF w) (w' : World) (hb : ∀ b, b < w.heap.size → w'.heap[b]? = w.heap[b]?) : fctF w' := by
 have hsz : w.heap.size ≤ w'.heap.size := by
  rcases Nat.lt_or_ge w'.heap.size w.heap.size with h | h
  ·have := hb w'.heap.size h;rw [Array.getElem?_eq_none (Nat.le_refl _), Array.getElem?_eq_getElem h] at this;cases this
  ·exact h
 have B : Below w.heap.size w { w with heap := w'.heap } := ⟨rfl, rfl, rfl, hsz, fun k hk => hb k hk⟩;obtain ⟨h1, h2, h3, h4⟩ := h;have e1 := TabIs_below Tryz.gbe h1 B;have e2 := RVar_below h2 B;have e3 := RVar_below h3 B;have e4 := CaseVar_below h4 B;exact ⟨e1, e2, e3, e4⟩
end Go.Ab
end
section
namespace Go.Proofs.YtoiieebljbhpbaaGreatDoor
open Go.RowKit Go.Shelf Go.Lib Go.Ab Go.Proofs
theorem extraL : RExtra Tryz.prog Tryz.laysLetter_ren := ⟨by kernel_rfl, by kernel_rfl, by kernel_rfl, by kernel_rfl, by kernel_rfl, by kernel_rfl, by kernel_rfl, by kernel_rfl⟩
theorem extraD : RExtra Tryz.prog Tryz.laysDigit_ren := ⟨by kernel_rfl, by kernel_rfl, by kernel_rfl, by kernel_rfl, by kernel_rfl, by kernel_rfl, by kernel_rfl, by kernel_rfl⟩
theorem extraC : CaseExtra Tryz.prog Tryz.laysLower_ren := ⟨by kernel_rfl, by kernel_rfl, by kernel_rfl, by kernel_rfl, by kernel_rfl, by kernel_rfl⟩
def laidU : List (String × DataW Unit) := Rows.accessPlaysRow.laid
theorem laidU_eq : laidU = [("unicode.properties", tabData .u8 propertiesTab), ("unicode.CaseRanges", Go.Pinned.caseRanges), ("unicode.Digit", Go.Pinned.digit), ("unicode.Letter", Go.Pinned.letter)] := by kernel_rfl
theorem facts_here {w : World} (h : laidMetH Tryz.prog laidU w) : fctF w := by
 rw [MakeChecks.laidMetH_plain _ _ _ (by kernel_rfl), laidU_eq] at h;refine ⟨?_, ?_, ?_, ?_⟩
 ·exact Lib.tabIs_of_head (t := 239) (e := 5) (n := 256) Tryz.gbe (by kernel_rfl) (by kernel_rfl) (by kernel_rfl) (by kernel_rfl) (by kernel_rfl) h
 ·exact rvar_of_reads { Tryz.laysLetter with } extraL (name := "unicode.Letter") (by kernel_rfl) (by kernel_rfl) (Go.Pinned.letter_eq ▸ Lib.laidMet.reads h (.tail _ (.tail _ (.tail _ (.head _)))))
 ·exact rvar_of_reads { Tryz.laysDigit with } extraD (name := "unicode.Digit") (by kernel_rfl) (by kernel_rfl) (Go.Pinned.digit_eq ▸ Lib.laidMet.reads h (.tail _ (.tail _ (.head _))))
 ·exact caseVar_of_reads { Tryz.laysLower with } (by kernel_rfl) extraC (Go.Pinned.caseRanges_eq ▸ Lib.laidMet.reads h (.tail _ (.head _)))
theorem facts_laid (w : World) (h : laidMetH Tryz.prog laidU w) (w' : World) (hb : ∀ b, b < w.heap.size → w'.heap[b]? = w.heap[b]?) : fctF w' := fctF_lasts (facts_here h) w' hb
theorem laid_plain (w : World) : laidMetH Tryz.prog laidU w = laidMet Tryz.prog laidU w := MakeChecks.laidMetH_plain _ _ _ (by kernel_rfl)
theorem laid_world (os : Os) (args : Array Value) : laidMetH Tryz.prog laidU ((World.laidAll Tryz.prog os laidU).forCall (fun _ _ => 0) ⟨#[], args, []⟩).memory := by
 rw [laid_plain];exact laidMet_laidAll _ (by kernel_rfl) (by kernel_rfl)
theorem laid_shape (os : Os) (args : Array Value) : ((World.laidAll Tryz.prog os laidU).forCall (fun _ _ => 0) ⟨#[], args, []⟩).Shaped Tryz.prog := World.shaped_of_ZipB (by kernel_rfl) (by kernel_rfl)
end Go.Proofs.YtoiieebljbhpbaaGreatDoor
end

/- The library's bodies, as this program numbers them: laid by the kit's tool. No condition. -/
import Derived.Shelf.Unicode.PredsPay
import Derived.Shelf.Strings.CaseAny
import Derived.WalkKit
import Derived.Test.YtjjjeolcapebbaaGreatDoorProg
import Derived.Shelf.SlSortCmp.NoneTotal
section
namespace Go.Proofs
open Go.Shelf
def Tryz.laysLetter_ren : Go.Shelf.Ren := ⟨fun | 200 => 196 | 261 => 277 | 311 => 333 | 312 => 334 | n => n, fun | 21 => 21 | 4 => 4 | 51 => 94 | 5 => 5 | 119 => 481 | 0 => 0 | 141 => 483 | 196 => 552 | 193 => 549 | 3 => 3 | 198 => 554 | 49 => 105 | 194 => 550 | 201 => 557 | 226 => 583 | 46 => 102 | 227 => 584 | n => n, fun | 7 => 0 | 8 => 1 | n => n⟩
theorem Tryz.laysLetter : Go.Proofs.Lays.n200 Tryz.prog Tryz.laysLetter_ren := {
  mixed := by kernel_rfl
  f200 := Tryz.func196.trans (congrArg some (by kernel_rfl))
  f261 := Tryz.func277.trans (congrArg some (by kernel_rfl))
  f311 := Tryz.func333.trans (congrArg some (by kernel_rfl))
  f312 := Tryz.func334.trans (congrArg some (by kernel_rfl))
  t0 := Tryz.underlying0
  a0 := Tryz.isAgg0
  z0 := Tryz.sizeOf0
  v0 := Tryz.zeroValue0
  t3 := Tryz.underlying3
  a3 := Tryz.isAgg3
  z3 := Tryz.sizeOf3
  v3 := Tryz.zeroValue3
  t4 := Tryz.underlying4
  a4 := Tryz.isAgg4
  z4 := Tryz.sizeOf4
  v4 := Tryz.zeroValue4
  t5 := Tryz.underlying5
  a5 := Tryz.isAgg5
  z5 := Tryz.sizeOf5
  v5 := Tryz.zeroValue5
  t21 := Tryz.underlying21
  a21 := Tryz.isAgg21
  z21 := Tryz.sizeOf21
  v21 := Tryz.zeroValue21
  t46 := Tryz.underlying102
  a46 := Tryz.isAgg102
  z46 := Tryz.sizeOf102
  v46 := Tryz.zeroValue102
  t49 := Tryz.underlying105
  a49 := Tryz.isAgg105
  z49 := Tryz.sizeOf105
  v49 := Tryz.zeroValue105
  t51 := Tryz.underlying94
  a51 := Tryz.isAgg94
  z51 := Tryz.sizeOf94
  v51 := Tryz.zeroValue94
  t119 := Tryz.underlying481
  a119 := Tryz.isAgg481
  z119 := Tryz.sizeOf481
  t141 := Tryz.underlying483
  a141 := Tryz.isAgg483
  z141 := Tryz.sizeOf483
  v141 := Tryz.zeroValue483
  t193 := Tryz.underlying549
  a193 := Tryz.isAgg549
  z193 := Tryz.sizeOf549
  v193 := Tryz.zeroValue549
  t194 := Tryz.underlying550
  a194 := Tryz.isAgg550
  z194 := Tryz.sizeOf550
  v194 := Tryz.zeroValue550
  t196 := Tryz.underlying552
  a196 := Tryz.isAgg552
  z196 := Tryz.sizeOf552
  v196 := Tryz.zeroValue552
  t198 := Tryz.underlying554
  a198 := Tryz.isAgg554
  z198 := Tryz.sizeOf554
  v198 := Tryz.zeroValue554
  t201 := Tryz.underlying557
  a201 := Tryz.isAgg557
  z201 := Tryz.sizeOf557
  v201 := Tryz.zeroValue557
  t226 := Tryz.underlying583
  a226 := Tryz.isAgg583
  z226 := Tryz.sizeOf583
  v226 := Tryz.zeroValue583
  t227 := Tryz.underlying584
  a227 := Tryz.isAgg584
  z227 := Tryz.sizeOf584
  v227 := Tryz.zeroValue584
  g7 := by kernel_rfl
  g8 := by kernel_rfl }
def Tryz.laysDigit_ren : Go.Shelf.Ren := ⟨fun | 198 => 197 | 261 => 277 | 311 => 333 | 312 => 334 | n => n, fun | 21 => 21 | 4 => 4 | 141 => 483 | 0 => 0 | 196 => 552 | 193 => 549 | 3 => 3 | 51 => 94 | 198 => 554 | 49 => 105 | 194 => 550 | 201 => 557 | 226 => 583 | 46 => 102 | 227 => 584 | n => n, fun | 5 => 2 | n => n⟩
theorem Tryz.laysDigit : Go.Proofs.Lays.n198 Tryz.prog Tryz.laysDigit_ren := {
  mixed := by kernel_rfl
  f198 := Tryz.func197.trans (congrArg some (by kernel_rfl))
  f261 := Tryz.func277.trans (congrArg some (by kernel_rfl))
  f311 := Tryz.func333.trans (congrArg some (by kernel_rfl))
  f312 := Tryz.func334.trans (congrArg some (by kernel_rfl))
  t0 := Tryz.underlying0
  a0 := Tryz.isAgg0
  z0 := Tryz.sizeOf0
  v0 := Tryz.zeroValue0
  t3 := Tryz.underlying3
  a3 := Tryz.isAgg3
  z3 := Tryz.sizeOf3
  v3 := Tryz.zeroValue3
  t4 := Tryz.underlying4
  a4 := Tryz.isAgg4
  z4 := Tryz.sizeOf4
  v4 := Tryz.zeroValue4
  t21 := Tryz.underlying21
  a21 := Tryz.isAgg21
  z21 := Tryz.sizeOf21
  v21 := Tryz.zeroValue21
  t46 := Tryz.underlying102
  a46 := Tryz.isAgg102
  z46 := Tryz.sizeOf102
  v46 := Tryz.zeroValue102
  t49 := Tryz.underlying105
  a49 := Tryz.isAgg105
  z49 := Tryz.sizeOf105
  v49 := Tryz.zeroValue105
  t51 := Tryz.underlying94
  a51 := Tryz.isAgg94
  z51 := Tryz.sizeOf94
  v51 := Tryz.zeroValue94
  t141 := Tryz.underlying483
  a141 := Tryz.isAgg483
  z141 := Tryz.sizeOf483
  v141 := Tryz.zeroValue483
  t193 := Tryz.underlying549
  a193 := Tryz.isAgg549
  z193 := Tryz.sizeOf549
  v193 := Tryz.zeroValue549
  t194 := Tryz.underlying550
  a194 := Tryz.isAgg550
  z194 := Tryz.sizeOf550
  v194 := Tryz.zeroValue550
  t196 := Tryz.underlying552
  a196 := Tryz.isAgg552
  z196 := Tryz.sizeOf552
  v196 := Tryz.zeroValue552
  t198 := Tryz.underlying554
  a198 := Tryz.isAgg554
  z198 := Tryz.sizeOf554
  v198 := Tryz.zeroValue554
  t201 := Tryz.underlying557
  a201 := Tryz.isAgg557
  z201 := Tryz.sizeOf557
  v201 := Tryz.zeroValue557
  t226 := Tryz.underlying583
  a226 := Tryz.isAgg583
  z226 := Tryz.sizeOf583
  v226 := Tryz.zeroValue583
  t227 := Tryz.underlying584
  a227 := Tryz.isAgg584
  z227 := Tryz.sizeOf584
  v227 := Tryz.zeroValue584
  g5 := by kernel_rfl }
def Tryz.laysLower_ren : Go.Shelf.Ren := ⟨fun | 204 => 341 | 262 => 368 | 313 => 379 | 274 => 390 | 275 => 391 | n => n, fun | 21 => 21 | 4 => 4 | 3 => 3 | 162 => 597 | 203 => 595 | 160 => 604 | 46 => 102 | 0 => 0 | 208 => 612 | 51 => 94 | 206 => 610 | n => n, fun | 13 => 3 | n => n⟩
theorem Tryz.laysLower : Go.Proofs.Lays.n204 Tryz.prog Tryz.laysLower_ren := {
  mixed := by kernel_rfl
  f204 := Tryz.func341.trans (congrArg some (by kernel_rfl))
  f262 := Tryz.func368.trans (congrArg some (by kernel_rfl))
  f274 := Tryz.func390.trans (congrArg some (by kernel_rfl))
  f275 := Tryz.func391.trans (congrArg some (by kernel_rfl))
  f313 := Tryz.func379.trans (congrArg some (by kernel_rfl))
  t0 := Tryz.underlying0
  a0 := Tryz.isAgg0
  z0 := Tryz.sizeOf0
  v0 := Tryz.zeroValue0
  t3 := Tryz.underlying3
  a3 := Tryz.isAgg3
  z3 := Tryz.sizeOf3
  v3 := Tryz.zeroValue3
  t4 := Tryz.underlying4
  a4 := Tryz.isAgg4
  z4 := Tryz.sizeOf4
  v4 := Tryz.zeroValue4
  t21 := Tryz.underlying21
  a21 := Tryz.isAgg21
  z21 := Tryz.sizeOf21
  v21 := Tryz.zeroValue21
  t46 := Tryz.underlying102
  a46 := Tryz.isAgg102
  z46 := Tryz.sizeOf102
  v46 := Tryz.zeroValue102
  t51 := Tryz.underlying94
  a51 := Tryz.isAgg94
  z51 := Tryz.sizeOf94
  v51 := Tryz.zeroValue94
  t160 := Tryz.underlying604
  a160 := Tryz.isAgg604
  z160 := Tryz.sizeOf604
  v160 := Tryz.zeroValue604
  t162 := Tryz.underlying597
  a162 := Tryz.isAgg597
  z162 := Tryz.sizeOf597
  v162 := Tryz.zeroValue597
  t203 := Tryz.underlying595
  a203 := Tryz.isAgg595
  z203 := Tryz.sizeOf595
  v203 := Tryz.zeroValue595
  t206 := Tryz.underlying610
  a206 := Tryz.isAgg610
  z206 := Tryz.sizeOf610
  v206 := Tryz.zeroValue610
  t208 := Tryz.underlying612
  a208 := Tryz.isAgg612
  z208 := Tryz.sizeOf612
  v208 := Tryz.zeroValue612
  g13 := by kernel_rfl }
end Go.Proofs
end
section
namespace Go.Ab
/-- The struct that is appended to rows of one's own: what is written into a book. -/
@[simp] def arrFs : Option (List (Nat × Nat)) := some [(0, 3), (1, 3), (2, 238)]
/-- Do the zero slices of what is built keep their tokens. -/
@[simp] def keepTok : Bool := true
open Go.Proofs Go.RowKit Go.Shelf Go.Lib
/-- What is known of the world throughout a call: Go's tables. -/
def fctF (w : World) : Prop :=
  Lib.TabIs Tryz.prog w "unicode.properties" .u8 Lib.propertiesTab ∧ RVar (Tryz.laysLetter_ren.g 8) letterT w ∧ RVar (Tryz.laysDigit_ren.g 5) digitT w ∧ CaseVar (Tryz.laysLower_ren.g 13) caseA w
theorem Tryz.gProps : Tryz.prog.globalNamed "unicode.properties" = some (Tryz.laysLetter_ren.g 7) := by kernel_rfl
/-- Where the blocks stay, what is known stays. -/
theorem fctF_lasts {w : World} (h : fctF w) (w' : World) (hb : ∀ b, b < w.heap.size → w'.heap[b]? = w.heap[b]?) : fctF w' := by
  have hsz : w.heap.size ≤ w'.heap.size := by
    rcases Nat.lt_or_ge w'.heap.size w.heap.size with h | h
    · have := hb w'.heap.size h
      rw [Array.getElem?_eq_none (Nat.le_refl _), Array.getElem?_eq_getElem h] at this
      cases this
    · exact h
  have B : Below w.heap.size w { w with heap := w'.heap } := ⟨rfl, rfl, rfl, hsz, fun k hk => hb k hk⟩
  obtain ⟨h1, h2, h3, h4⟩ := h
  have e1 := TabIs_below Tryz.gProps h1 B
  have e2 := RVar_below h2 B
  have e3 := RVar_below h3 B
  have e4 := CaseVar_below h4 B
  exact ⟨e1, e2, e3, e4⟩
end Go.Ab
end
section
namespace Go.Proofs
open Go.Shelf
def Tryz.sortL_ren : Go.Shelf.Ren := ⟨fun | 6 => 271 | 15 => 249 | 14 => 332 | 28 => 310 | 29 => 311 | 20 => 358 | 21 => 359 | 22 => 360 | 23 => 361 | 24 => 362 | 25 => 363 | 26 => 364 | 27 => 365 | 46 => 374 | 47 => 346 | 48 => 347 | 49 => 375 | 50 => 376 | 57 => 389 | n => n, fun | 22 => 239 | 24 => 168 | 25 => 355 | 3 => 3 | 39 => 102 | 0 => 0 | 53 => 94 | 55 => 251 | 4 => 4 | 46 => 523 | 45 => 522 | 50 => 241 | 5 => 5 | 9 => 9 | 66 => 566 | 70 => 570 | 76 => 590 | 77 => 319 | n => n, fun | n => n⟩
theorem Tryz.sortL : Go.Proofs.SlLaysF0.n6 Tryz.prog Tryz.sortL_ren := {
  mixed := by kernel_rfl
  f6 := ⟨Tryz.f271.name, by decide, Tryz.func271.trans (congrArg some (by kernel_rfl))⟩
  f14 := ⟨Tryz.f332.name, by decide, Tryz.func332.trans (congrArg some (by kernel_rfl))⟩
  f15 := Tryz.func249.trans (congrArg some (by kernel_rfl))
  f20 := ⟨Tryz.f358.name, by decide, Tryz.func358.trans (congrArg some (by kernel_rfl))⟩
  f21 := ⟨Tryz.f359.name, by decide, Tryz.func359.trans (congrArg some (by kernel_rfl))⟩
  f22 := ⟨Tryz.f360.name, by decide, Tryz.func360.trans (congrArg some (by kernel_rfl))⟩
  f23 := ⟨Tryz.f361.name, by decide, Tryz.func361.trans (congrArg some (by kernel_rfl))⟩
  f24 := ⟨Tryz.f362.name, by decide, Tryz.func362.trans (congrArg some (by kernel_rfl))⟩
  f25 := ⟨Tryz.f363.name, by decide, Tryz.func363.trans (congrArg some (by kernel_rfl))⟩
  f26 := ⟨Tryz.f364.name, by decide, Tryz.func364.trans (congrArg some (by kernel_rfl))⟩
  f27 := ⟨Tryz.f365.name, by decide, Tryz.func365.trans (congrArg some (by kernel_rfl))⟩
  f28 := Tryz.func310.trans (congrArg some (by kernel_rfl))
  f29 := Tryz.func311.trans (congrArg some (by kernel_rfl))
  f46 := ⟨Tryz.f374.name, by decide, Tryz.func374.trans (congrArg some (by kernel_rfl))⟩
  f47 := Tryz.func346.trans (congrArg some (by kernel_rfl))
  f48 := Tryz.func347.trans (congrArg some (by kernel_rfl))
  f49 := ⟨Tryz.f375.name, by decide, Tryz.func375.trans (congrArg some (by kernel_rfl))⟩
  f50 := ⟨Tryz.f376.name, by decide, Tryz.func376.trans (congrArg some (by kernel_rfl))⟩
  f57 := ⟨Tryz.f389.name, by decide, Tryz.func389.trans (congrArg some (by kernel_rfl))⟩
  t0 := Tryz.underlying0
  a0 := Tryz.isAgg0
  z0 := Tryz.sizeOf0
  v0 := Tryz.zeroValue0
  t3 := Tryz.underlying3
  a3 := Tryz.isAgg3
  z3 := Tryz.sizeOf3
  v3 := Tryz.zeroValue3
  t4 := Tryz.underlying4
  a4 := Tryz.isAgg4
  z4 := Tryz.sizeOf4
  v4 := Tryz.zeroValue4
  t5 := Tryz.underlying5
  a5 := Tryz.isAgg5
  z5 := Tryz.sizeOf5
  v5 := Tryz.zeroValue5
  t9 := Tryz.underlying9
  a9 := Tryz.isAgg9
  z9 := Tryz.sizeOf9
  v9 := Tryz.zeroValue9
  t22 := Tryz.underlying239
  a22 := Tryz.isAgg239
  z22 := Tryz.sizeOf239
  v22 := Tryz.zeroValue239
  t25 := Tryz.underlying355
  a25 := Tryz.isAgg355
  z25 := Tryz.sizeOf355
  v25 := Tryz.zeroValue355
  t39 := Tryz.underlying102
  a39 := Tryz.isAgg102
  z39 := Tryz.sizeOf102
  v39 := Tryz.zeroValue102
  t45 := Tryz.underlying522
  a45 := Tryz.isAgg522
  z45 := Tryz.sizeOf522
  v45 := Tryz.zeroValue522
  t46 := Tryz.underlying523
  a46 := Tryz.isAgg523
  z46 := Tryz.sizeOf523
  v46 := Tryz.zeroValue523
  t50 := Tryz.underlying241
  a50 := Tryz.isAgg241
  z50 := Tryz.sizeOf241
  v50 := Tryz.zeroValue241
  t53 := Tryz.underlying94
  a53 := Tryz.isAgg94
  z53 := Tryz.sizeOf94
  v53 := Tryz.zeroValue94
  t55 := Tryz.underlying251
  a55 := Tryz.isAgg251
  z55 := Tryz.sizeOf251
  v55 := Tryz.zeroValue251
  t66 := Tryz.underlying566
  a66 := Tryz.isAgg566
  z66 := Tryz.sizeOf566
  v66 := Tryz.zeroValue566
  t70 := Tryz.underlying570
  a70 := Tryz.isAgg570
  z70 := Tryz.sizeOf570
  v70 := Tryz.zeroValue570
  t76 := Tryz.underlying590
  a76 := Tryz.isAgg590
  z76 := Tryz.sizeOf590
  v76 := Tryz.zeroValue590
  t77 := Tryz.underlying319
  a77 := Tryz.isAgg319
  z77 := Tryz.sizeOf319
  v77 := Tryz.zeroValue319 }
end Go.Proofs
end

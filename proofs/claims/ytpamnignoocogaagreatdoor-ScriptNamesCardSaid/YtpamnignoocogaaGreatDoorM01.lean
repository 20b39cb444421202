import Derived.Shelf.Unicode.PredsPay
import Derived.Shelf.Strings.CaseAny
import Derived.WalkKit
import Derived.Test.YtpamnignoocogaaGreatDoorProg
import Derived.Shelf.Small.Strs
import Derived.Shelf.Strings.Split
section
namespace Go.Proofs
open Go.Shelf
def Tryz.laysLetter_ren : Go.Shelf.Ren := ⟨fun | 200 => 75 | 261 => 103 | 311 => 143 | 312 => 144 | n => n, fun | 21 => 21 | 4 => 4 | 51 => 116 | 5 => 5 | 119 => 173 | 0 => 0 | 141 => 175 | 196 => 228 | 193 => 225 | 3 => 3 | 198 => 230 | 49 => 131 | 194 => 226 | 201 => 233 | 226 => 341 | 46 => 85 | 227 => 342 | n => n, fun | 7 => 0 | 8 => 1 | n => n⟩
theorem Tryz.laysLetter : Go.Proofs.Lays.n200 Tryz.prog Tryz.laysLetter_ren := {
 mixed := by kernel_rfl
 f200 := Tryz.func75.trans (congrArg some (by kernel_rfl))
 f261 := Tryz.func103.trans (congrArg some (by kernel_rfl))
 f311 := Tryz.func143.trans (congrArg some (by kernel_rfl))
 f312 := Tryz.func144.trans (congrArg some (by kernel_rfl))
 t0 := Tryz.underlying0
 a0 := Tryz.isAgg0
 z0 := Tryz.sizeOf0
 v0 := Tryz.zeroValue0
 t3 := Tryz.underlying3
 a3 := Tryz.isAgg3
 z3 := Tryz.sizeOf3
 v3 := Tryz.zeroValue3
 t4 := Tryz.underlying4
 a4 := Tryz.isAgg4
 z4 := Tryz.sizeOf4
 v4 := Tryz.zeroValue4
 t5 := Tryz.underlying5
 a5 := Tryz.isAgg5
 z5 := Tryz.sizeOf5
 v5 := Tryz.zeroValue5
 t21 := Tryz.underlying21
 a21 := Tryz.isAgg21
 z21 := Tryz.sizeOf21
 v21 := Tryz.zeroValue21
 t46 := Tryz.underlying85
 a46 := Tryz.isAgg85
 z46 := Tryz.sizeOf85
 v46 := Tryz.zeroValue85
 t49 := Tryz.underlying131
 a49 := Tryz.isAgg131
 z49 := Tryz.sizeOf131
 v49 := Tryz.zeroValue131
 t51 := Tryz.underlying116
 a51 := Tryz.isAgg116
 z51 := Tryz.sizeOf116
 v51 := Tryz.zeroValue116
 t119 := Tryz.underlying173
 a119 := Tryz.isAgg173
 z119 := Tryz.sizeOf173
 t141 := Tryz.underlying175
 a141 := Tryz.isAgg175
 z141 := Tryz.sizeOf175
 v141 := Tryz.zeroValue175
 t193 := Tryz.underlying225
 a193 := Tryz.isAgg225
 z193 := Tryz.sizeOf225
 v193 := Tryz.zeroValue225
 t194 := Tryz.underlying226
 a194 := Tryz.isAgg226
 z194 := Tryz.sizeOf226
 v194 := Tryz.zeroValue226
 t196 := Tryz.underlying228
 a196 := Tryz.isAgg228
 z196 := Tryz.sizeOf228
 v196 := Tryz.zeroValue228
 t198 := Tryz.underlying230
 a198 := Tryz.isAgg230
 z198 := Tryz.sizeOf230
 v198 := Tryz.zeroValue230
 t201 := Tryz.underlying233
 a201 := Tryz.isAgg233
 z201 := Tryz.sizeOf233
 v201 := Tryz.zeroValue233
 t226 := Tryz.underlying341
 a226 := Tryz.isAgg341
 z226 := Tryz.sizeOf341
 v226 := Tryz.zeroValue341
 t227 := Tryz.underlying342
 a227 := Tryz.isAgg342
 z227 := Tryz.sizeOf342
 v227 := Tryz.zeroValue342
 g7 := by kernel_rfl
 g8 := by kernel_rfl }
def Tryz.laysDigit_ren : Go.Shelf.Ren := ⟨fun | 198 => 76 | 261 => 103 | 311 => 143 | 312 => 144 | n => n, fun | 21 => 21 | 4 => 4 | 141 => 175 | 0 => 0 | 196 => 228 | 193 => 225 | 3 => 3 | 51 => 116 | 198 => 230 | 49 => 131 | 194 => 226 | 201 => 233 | 226 => 341 | 46 => 85 | 227 => 342 | n => n, fun | 5 => 2 | n => n⟩
theorem Tryz.laysDigit : Go.Proofs.Lays.n198 Tryz.prog Tryz.laysDigit_ren := {
 mixed := by kernel_rfl
 f198 := Tryz.func76.trans (congrArg some (by kernel_rfl))
 f261 := Tryz.func103.trans (congrArg some (by kernel_rfl))
 f311 := Tryz.func143.trans (congrArg some (by kernel_rfl))
 f312 := Tryz.func144.trans (congrArg some (by kernel_rfl))
 t0 := Tryz.underlying0
 a0 := Tryz.isAgg0
 z0 := Tryz.sizeOf0
 v0 := Tryz.zeroValue0
 t3 := Tryz.underlying3
 a3 := Tryz.isAgg3
 z3 := Tryz.sizeOf3
 v3 := Tryz.zeroValue3
 t4 := Tryz.underlying4
 a4 := Tryz.isAgg4
 z4 := Tryz.sizeOf4
 v4 := Tryz.zeroValue4
 t21 := Tryz.underlying21
 a21 := Tryz.isAgg21
 z21 := Tryz.sizeOf21
 v21 := Tryz.zeroValue21
 t46 := Tryz.underlying85
 a46 := Tryz.isAgg85
 z46 := Tryz.sizeOf85
 v46 := Tryz.zeroValue85
 t49 := Tryz.underlying131
 a49 := Tryz.isAgg131
 z49 := Tryz.sizeOf131
 v49 := Tryz.zeroValue131
 t51 := Tryz.underlying116
 a51 := Tryz.isAgg116
 z51 := Tryz.sizeOf116
 v51 := Tryz.zeroValue116
 t141 := Tryz.underlying175
 a141 := Tryz.isAgg175
 z141 := Tryz.sizeOf175
 v141 := Tryz.zeroValue175
 t193 := Tryz.underlying225
 a193 := Tryz.isAgg225
 z193 := Tryz.sizeOf225
 v193 := Tryz.zeroValue225
 t194 := Tryz.underlying226
 a194 := Tryz.isAgg226
 z194 := Tryz.sizeOf226
 v194 := Tryz.zeroValue226
 t196 := Tryz.underlying228
 a196 := Tryz.isAgg228
 z196 := Tryz.sizeOf228
 v196 := Tryz.zeroValue228
 t198 := Tryz.underlying230
 a198 := Tryz.isAgg230
 z198 := Tryz.sizeOf230
 v198 := Tryz.zeroValue230
 t201 := Tryz.underlying233
 a201 := Tryz.isAgg233
 z201 := Tryz.sizeOf233
 v201 := Tryz.zeroValue233
 t226 := Tryz.underlying341
 a226 := Tryz.isAgg341
 z226 := Tryz.sizeOf341
 v226 := Tryz.zeroValue341
 t227 := Tryz.underlying342
 a227 := Tryz.isAgg342
 z227 := Tryz.sizeOf342
 v227 := Tryz.zeroValue342
 g5 := by kernel_rfl }
def Tryz.laysLower_ren : Go.Shelf.Ren := ⟨fun | 204 => 39 | 262 => 77 | 313 => 104 | 274 => 145 | 275 => 146 | n => n, fun | 21 => 21 | 4 => 4 | 3 => 3 | 162 => 178 | 203 => 176 | 160 => 235 | 46 => 85 | 0 => 0 | 208 => 346 | 51 => 116 | 206 => 344 | n => n, fun | 13 => 3 | n => n⟩
theorem Tryz.laysLower : Go.Proofs.Lays.n204 Tryz.prog Tryz.laysLower_ren := {
 mixed := by kernel_rfl
 f204 := Tryz.func39.trans (congrArg some (by kernel_rfl))
 f262 := Tryz.func77.trans (congrArg some (by kernel_rfl))
 f274 := Tryz.func145.trans (congrArg some (by kernel_rfl))
 f275 := Tryz.func146.trans (congrArg some (by kernel_rfl))
 f313 := Tryz.func104.trans (congrArg some (by kernel_rfl))
 t0 := Tryz.underlying0
 a0 := Tryz.isAgg0
 z0 := Tryz.sizeOf0
 v0 := Tryz.zeroValue0
 t3 := Tryz.underlying3
 a3 := Tryz.isAgg3
 z3 := Tryz.sizeOf3
 v3 := Tryz.zeroValue3
 t4 := Tryz.underlying4
 a4 := Tryz.isAgg4
 z4 := Tryz.sizeOf4
 v4 := Tryz.zeroValue4
 t21 := Tryz.underlying21
 a21 := Tryz.isAgg21
 z21 := Tryz.sizeOf21
 v21 := Tryz.zeroValue21
 t46 := Tryz.underlying85
 a46 := Tryz.isAgg85
 z46 := Tryz.sizeOf85
 v46 := Tryz.zeroValue85
 t51 := Tryz.underlying116
 a51 := Tryz.isAgg116
 z51 := Tryz.sizeOf116
 v51 := Tryz.zeroValue116
 t160 := Tryz.underlying235
 a160 := Tryz.isAgg235
 z160 := Tryz.sizeOf235
 v160 := Tryz.zeroValue235
 t162 := Tryz.underlying178
 a162 := Tryz.isAgg178
 z162 := Tryz.sizeOf178
 v162 := Tryz.zeroValue178
 t203 := Tryz.underlying176
 a203 := Tryz.isAgg176
 z203 := Tryz.sizeOf176
 v203 := Tryz.zeroValue176
 t206 := Tryz.underlying344
 a206 := Tryz.isAgg344
 z206 := Tryz.sizeOf344
 v206 := Tryz.zeroValue344
 t208 := Tryz.underlying346
 a208 := Tryz.isAgg346
 z208 := Tryz.sizeOf346
 v208 := Tryz.zeroValue346
 g13 := by kernel_rfl }
end Go.Proofs
end
section
namespace Go.Proofs
open Go.Shelf
def Tryz.laysIx_ren : Go.Shelf.Ren := ⟨fun | 137 => 56 | 217 => 92 | 266 => 132 | n => n, fun | 9 => 9 | 5 => 5 | 3 => 3 | n => n, fun | n => n⟩
theorem Tryz.laysIx : Go.Proofs.Lays.n137 Tryz.prog Tryz.laysIx_ren := {
 mixed := by kernel_rfl
 f137 := Tryz.func56.trans (congrArg some (by kernel_rfl))
 f217 := Tryz.func92.trans (congrArg some (by kernel_rfl))
 f266 := Tryz.func132.trans (congrArg some (by kernel_rfl))
 t3 := Tryz.underlying3
 a3 := Tryz.isAgg3
 z3 := Tryz.sizeOf3
 v3 := Tryz.zeroValue3
 t5 := Tryz.underlying5
 a5 := Tryz.isAgg5
 z5 := Tryz.sizeOf5
 v5 := Tryz.zeroValue5
 t9 := Tryz.underlying9
 a9 := Tryz.isAgg9
 z9 := Tryz.sizeOf9
 v9 := Tryz.zeroValue9 }
def Tryz.laysSplit_ren : Go.Shelf.Ren := ⟨fun | 146 => 20 | 221 => 42 | 268 => 85 | 138 => 86 | 143 => 87 | 195 => 111 | 197 => 112 | 218 => 113 | 219 => 114 | 260 => 148 | 217 => 92 | 225 => 149 | 224 => 150 | 267 => 151 | 266 => 132 | 314 => 202 | n => n, fun | 9 => 9 | 31 => 27 | 3 => 3 | 4 => 4 | 0 => 0 | 105 => 188 | 21 => 21 | 5 => 5 | 46 => 85 | 119 => 173 | 139 => 349 | 138 => 348 | 146 => 350 | 51 => 116 | n => n, fun | 1 => 4 | 3 => 5 | 4 => 6 | n => n⟩
theorem Tryz.laysSplit : Go.Proofs.Lays.n146 Tryz.prog Tryz.laysSplit_ren := {
 mixed := by kernel_rfl
 f138 := Tryz.func86.trans (congrArg some (by kernel_rfl))
 f143 := Tryz.func87.trans (congrArg some (by kernel_rfl))
 f146 := Tryz.func20.trans (congrArg some (by kernel_rfl))
 f195 := Tryz.func111.trans (congrArg some (by kernel_rfl))
 f197 := Tryz.func112.trans (congrArg some (by kernel_rfl))
 f217 := Tryz.func92.trans (congrArg some (by kernel_rfl))
 f218 := Tryz.func113.trans (congrArg some (by kernel_rfl))
 f219 := Tryz.func114.trans (congrArg some (by kernel_rfl))
 f221 := Tryz.func42.trans (congrArg some (by kernel_rfl))
 f224 := Tryz.func150.trans (congrArg some (by kernel_rfl))
 f225 := Tryz.func149.trans (congrArg some (by kernel_rfl))
 f260 := Tryz.func148.trans (congrArg some (by kernel_rfl))
 f266 := Tryz.func132.trans (congrArg some (by kernel_rfl))
 f267 := Tryz.func151.trans (congrArg some (by kernel_rfl))
 f268 := Tryz.func85.trans (congrArg some (by kernel_rfl))
 f314 := Tryz.func202.trans (congrArg some (by kernel_rfl))
 t0 := Tryz.underlying0
 a0 := Tryz.isAgg0
 z0 := Tryz.sizeOf0
 v0 := Tryz.zeroValue0
 t3 := Tryz.underlying3
 a3 := Tryz.isAgg3
 z3 := Tryz.sizeOf3
 v3 := Tryz.zeroValue3
 t4 := Tryz.underlying4
 a4 := Tryz.isAgg4
 z4 := Tryz.sizeOf4
 v4 := Tryz.zeroValue4
 t5 := Tryz.underlying5
 a5 := Tryz.isAgg5
 z5 := Tryz.sizeOf5
 v5 := Tryz.zeroValue5
 t9 := Tryz.underlying9
 a9 := Tryz.isAgg9
 z9 := Tryz.sizeOf9
 v9 := Tryz.zeroValue9
 t21 := Tryz.underlying21
 a21 := Tryz.isAgg21
 z21 := Tryz.sizeOf21
 v21 := Tryz.zeroValue21
 t31 := Tryz.underlying27
 a31 := Tryz.isAgg27
 z31 := Tryz.sizeOf27
 v31 := Tryz.zeroValue27
 t46 := Tryz.underlying85
 a46 := Tryz.isAgg85
 z46 := Tryz.sizeOf85
 v46 := Tryz.zeroValue85
 t51 := Tryz.underlying116
 a51 := Tryz.isAgg116
 z51 := Tryz.sizeOf116
 v51 := Tryz.zeroValue116
 t105 := Tryz.underlying188
 a105 := Tryz.isAgg188
 z105 := Tryz.sizeOf188
 v105 := Tryz.zeroValue188
 t119 := Tryz.underlying173
 a119 := Tryz.isAgg173
 z119 := Tryz.sizeOf173
 t138 := Tryz.underlying348
 a138 := Tryz.isAgg348
 z138 := Tryz.sizeOf348
 v138 := Tryz.zeroValue348
 t139 := Tryz.underlying349
 a139 := Tryz.isAgg349
 z139 := Tryz.sizeOf349
 v139 := Tryz.zeroValue349
 t146 := Tryz.underlying350
 a146 := Tryz.isAgg350
 z146 := Tryz.sizeOf350
 v146 := Tryz.zeroValue350
 g1 := by kernel_rfl
 g3 := by kernel_rfl
 g4 := by kernel_rfl }
end Go.Proofs
end
section
namespace Go.Ab
@[simp] def keepTok : Bool := true
open Go.Proofs Go.RowKit Go.Shelf Go.Lib
def fctF (w : World) : Prop :=
 Lib.TabIs Tryz.prog w "unicode.properties" .u8 Lib.propertiesTab ∧ RVar (Tryz.laysLetter_ren.g 8) letterT w ∧ RVar (Tryz.laysDigit_ren.g 5) digitT w ∧ CaseVar (Tryz.laysLower_ren.g 13) caseA w ∧ ∃ m, w.cell? ⟨Tryz.laysSplit_ren.g 1, 0, none⟩ = some (.int .i64 m)
theorem Tryz.gaB : Tryz.prog.globalNamed "unicode.properties" = some (Tryz.laysLetter_ren.g 7) := by kernel_rfl
theorem fctF_lasts {w : World} (h : fctF w) (w' : World) (hb : ∀ b, b < w.heap.size → w'.heap[b]? = w.heap[b]?) : fctF w' := by
 have hsz : w.heap.size ≤ w'.heap.size := by
  rcases Nat.lt_or_ge w'.heap.size w.heap.size with h | h
  ·have := hb w'.heap.size h;rw [Array.getElem?_eq_none (Nat.le_refl _), Array.getElem?_eq_getElem h] at this;cases this
  ·exact h
 have B : Below w.heap.size w { w with heap := w'.heap } := ⟨rfl, rfl, rfl, hsz, fun k hk => hb k hk⟩;obtain ⟨h1, h2, h3, h4, m, h5⟩ := h;have e1 := TabIs_below Tryz.gaB h1 B;have e2 := RVar_below h2 B;have e3 := RVar_below h3 B;have e4 := CaseVar_below h4 B;refine ⟨e1, e2, e3, e4, m, ?_⟩
 have hlt : (⟨Tryz.laysSplit_ren.g 1, 0, none⟩ : Addr).block < w.heap.size := by
  rcases Nat.lt_or_ge (Tryz.laysSplit_ren.g 1) w.heap.size with h | h
  ·exact h
  ·simp [World.cell?, Array.getElem?_eq_none h] at h5
 rw [← h5];simp only [World.cell?];rw [hb _ hlt]
end Go.Ab
end

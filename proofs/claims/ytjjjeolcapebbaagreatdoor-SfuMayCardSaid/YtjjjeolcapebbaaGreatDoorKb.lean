/- What the law's entry asks of all the program's types, in parts. No condition. -/
import Derived.Test.YtjjjeolcapebbaaGreatDoorM13
import Derived.Test.YtjjjeolcapebbaaGreatDoorProg
import Derived.Test.YtjjjeolcapebbaaGreatDoorM02
import GoSem.ClaimGoes
set_option maxRecDepth 100000
namespace Go.Proofs
open Go.Ab Go.ChangeShapes Go.WideShapes Go.ChangeAt
noncomputable def Tryz.slE (t : TypeId) : Bool := match Tryz.prog.underlying t with | some (.slice e) => decide (0 < Tryz.prog.cellsOf e) | _ => true
noncomputable def Tryz.mpE (t : TypeId) : Bool := match Tryz.prog.underlying t with | some (.map _ e) => decide (e < Tryz.prog.types.size) | _ => true
noncomputable def Tryz.tyE (t : TypeId) : Bool := rowFine Tryz.prog t && (Tryz.slE t && Tryz.mpE t)
theorem Tryz.tyE0 : partB Tryz.tyE Tryz.prog.types.size 0 = true := by kernel_rfl
theorem Tryz.tyE1 : partB Tryz.tyE Tryz.prog.types.size 1 = true := by kernel_rfl
theorem Tryz.tyE2 : partB Tryz.tyE Tryz.prog.types.size 2 = true := by kernel_rfl
theorem Tryz.tyE3 : partB Tryz.tyE Tryz.prog.types.size 3 = true := by kernel_rfl
theorem Tryz.tyE4 : partB Tryz.tyE Tryz.prog.types.size 4 = true := by kernel_rfl
theorem Tryz.tyE5 : partB Tryz.tyE Tryz.prog.types.size 5 = true := by kernel_rfl
theorem Tryz.tyE6 : partB Tryz.tyE Tryz.prog.types.size 6 = true := by kernel_rfl
theorem Tryz.tyE_all : (List.range Tryz.prog.types.size).all Tryz.tyE = true :=
  of_parts (k := 7) (of_decide_eq_true (by kernel_rfl)) fun
    | 0, _ => Tryz.tyE0
    | 1, _ => Tryz.tyE1
    | 2, _ => Tryz.tyE2
    | 3, _ => Tryz.tyE3
    | 4, _ => Tryz.tyE4
    | 5, _ => Tryz.tyE5
    | 6, _ => Tryz.tyE6
    | n + 7, h => absurd h (by omega)
theorem Tryz.laidOut : laidOutB Tryz.prog = true := by
  unfold laidOutB
  rw [List.all_eq_true.2 fun t ht => (Bool.and_eq_true_iff.1 (List.all_eq_true.1 Tryz.tyE_all t ht)).1]
  kernel_rfl
theorem Tryz.mapsRow : mapsRowed Tryz.prog = true := List.all_eq_true.2 fun t ht => (Bool.and_eq_true_iff.1 (Bool.and_eq_true_iff.1 (List.all_eq_true.1 Tryz.tyE_all t ht)).2).2
theorem Tryz.kids : Kids Tryz.prog (· < Tryz.prog.types.size) := kids_rows Tryz.laidOut Tryz.mapsRow
theorem Tryz.slots : ((List.range Tryz.prog.types.size).all fun t => match Tryz.prog.underlying t with | some (.slice e) => decide (0 < Tryz.prog.cellsOf e) | _ => true) = true :=
  List.all_eq_true.2 fun t ht => (Bool.and_eq_true_iff.1 (Bool.and_eq_true_iff.1 (List.all_eq_true.1 Tryz.tyE_all t ht)).2).1
/-- Where no body starts a goroutine, no call does. -/
theorem goes_none {P : Program} (h : P.funcs.any Func.goes = false) (f : FuncId) : P.goes f = false := by
  unfold Program.goes
  rw [h, Bool.and_false, Bool.or_false]
  refine List.any_eq_false.2 fun g _ => ?_
  cases hg : P.funcs[g]? with
  | none => simp
  | some fn =>
    obtain ⟨hlt, he⟩ := Array.getElem?_eq_some_iff.1 hg
    have := Array.any_eq_false.1 h g hlt
    rw [he] at this
    simpa using this
theorem goesBy_none {P : Program} (h : P.funcs.any Func.goes = false) (c : OpenClaim) (hs : c.start = .entering) : false = c.goesBy P := by
  unfold OpenClaim.goesBy Program.goesAt Program.goesFrom
  rw [hs]
  cases hf : P.funcNamed c.func with
  | none => rfl
  | some f => simp [goes_none h f]
theorem Tryz.goesNot : Tryz.prog.funcs.any Func.goes = false := by kernel_rfl
end Go.Proofs

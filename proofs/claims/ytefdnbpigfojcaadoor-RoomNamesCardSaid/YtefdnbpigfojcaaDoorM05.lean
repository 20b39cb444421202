/- The names of all rooms, in plain words. No condition. -/
import Derived.Test.YtefdnbpigfojcaaDoorM03
import Derived.Test.YtefdnbpigfojcaaDoorM02
import Derived.Test.YtefdnbpigfojcaaDoorTs
import Derived.Test.YtefdnbpigfojcaaDoorWb
import Derived.Test.YtefdnbpigfojcaaDoorTy
import Derived.Laws.Externs
import Derived.Test.YtefdnbpigfojcaaDoorM01
import Derived.Stop.Joined
section
namespace Go.Proofs
open Go.Ab

open Classical in
/-- Each of a list once. -/
noncomputable def nubL {α : Type} : List α → List α
  | [] => []
  | a :: l => if a ∈ l then nubL l else a :: nubL l
theorem mem_nubL {α : Type} {x : α} : ∀ {l : List α}, x ∈ nubL l ↔ x ∈ l
  | [] => by simp [nubL]
  | a :: l => by
    rw [nubL]
    split
    · rename_i h
      rw [mem_nubL (l := l), List.mem_cons]
      exact ⟨.inr, fun q => q.elim (fun e => e ▸ h) id⟩
    · rw [List.mem_cons, List.mem_cons, mem_nubL (l := l)]
theorem nodup_nubL {α : Type} : ∀ (l : List α), (nubL l).Nodup
  | [] => by simp [nubL]
  | a :: l => by
    rw [nubL]
    split
    · exact nodup_nubL l
    · rename_i h
      exact List.nodup_cons.2 ⟨fun q => h (mem_nubL.1 q), nodup_nubL l⟩

/-- The folded names of the rooms in which participants are. -/
noncomputable def foldsM (m : List (Int × Antiphonref12Peer)) : List ByteArray := m.map fun e => (gLabelFold e.2.fRoom).getD dflt
noncomputable def gRoomTableRoomsP (x0 : RoomTable) : Option (List ByteArray) :=
  need (∀ e ∈ x0.fPeers, (gLabelFold e.2.fRoom).isSome = true) <|
  need (KeysBS (foldsM x0.fPeers)) <|
  some (sortS (nubL (foldsM x0.fPeers)))
theorem sortS_perm {l l' : List ByteArray} (h : l.Perm l') : sortS l = sortS l' := by
  unfold sortS
  rw [Go.mergeSort_of_perm (h.map kbytesOf)]
end Go.Proofs
end
section
namespace Go.Proofs
open Go.Ab
noncomputable def gRoomTableRooms (x0 : RoomTable) : Option (List ByteArray) :=
  ((gRoomTableRoomsP x0)).bind fun r1 =>
  some r1
end Go.Proofs
end
section
namespace Go.Proofs
open Go.RowKit Go.Ab

theorem Tryd.bcSize : (Tryd.prog.info? 91).map (·.size) = some 2 := by kernel_rfl
theorem Tryd.bcLies : liesAt Tryd.prog Tryd.prog.depth 91 (2 / Tryd.prog.cellsOf 91) 0 91 1 = true := by kernel_rfl
theorem Tryd.bbyteI : (Tryd.prog.info? 5).map (fun i => (i.zero, i.size, i.bytes)) = some (some (.int .u8 0), 1, 1) := by kernel_rfl

set_option maxHeartbeats 1000000 in
set_option maxRecDepth 100000 in
theorem Tryd.bcFresh (b : Nat) (w : World) (v : Value) (hb : w.heap[b]? = some (.cells #[.pointer none, v] 91 (0, 0))) :
    Calls Tryd.prog 56 #[.pointer (some ⟨b, 0, none⟩)] w fun e w' => e = .returned (.tuple #[]) ∧ w' = w.setCell ⟨b, 0, none⟩ (.pointer (some ⟨b, 0, none⟩)) := by
  obtain ⟨j, hj, hjs⟩ := Option.map_eq_some_iff.1 Tryd.bcSize
  have h0 : w.cell? ⟨b, 0, none⟩ = some (.pointer none) := by rw [Lib.cell_of_heap hb]; rfl
  have hsh : w.shape? b = some (91, 2) := by simp [World.shape?, hb]
  have hfz : w.frozen? ⟨b, 0, none⟩ = false := Lib.frozen_of_heap hb 0
  go_enter Tryd.func56, Tryd.ntmps56
  go_wp2
  rw [Lib.run_to_unsafe w ⟨b, 0, none⟩ Tryd.underlying88 Tryd.underlying129 hj (by rw [hjs]; decide) hsh (Nat.zero_lt_succ 1)]
  simp only [Result.andThen]
  rw [Oper.upon_value]
  go_wp2
  rw [run_callFunc_extern Tryd.func67 (by kernel_rfl) (by kernel_rfl) (by kernel_rfl) (e := Extern.AbiNoEscape.same) (by kernel_rfl)]
  rw [Lib.run_noEscape]
  simp only [Result.andThen]
  rw [Oper.upon_value]
  go_wp2
  rw [Lib.run_from_unsafe w ⟨b, 0, none⟩ Tryd.underlying129 Tryd.underlying88 hj hsh Tryd.bcLies]
  simp only [Result.andThen]
  rw [Oper.upon_value]
  go_wp2
  go_end0
  exact ⟨rfl, rfl⟩

set_option maxHeartbeats 1000000 in
set_option maxRecDepth 100000 in
theorem Tryd.bcUsed (b : Nat) (w : World) (v : Value) (hb : w.heap[b]? = some (.cells #[.pointer (some ⟨b, 0, none⟩), v] 91 (0, 0))) :
    Calls Tryd.prog 56 #[.pointer (some ⟨b, 0, none⟩)] w fun e w' => e = .returned (.tuple #[]) ∧ w' = w := by
  obtain ⟨j, hj, hjs⟩ := Option.map_eq_some_iff.1 Tryd.bcSize
  have h0 : w.cell? ⟨b, 0, none⟩ = some (.pointer (some ⟨b, 0, none⟩)) := by rw [Lib.cell_of_heap hb]; rfl
  go_enter Tryd.func56, Tryd.ntmps56
  go_wp2
  rw [Lib.run_neq_ptr_same w _ Tryd.underlying88 hj]
  go_wp2
  go_end0
  exact ⟨rfl, rfl⟩

theorem Tryd.bcAny (b : Nat) (w : World) (p v : Value) (n : Nat) (xs : List Value) (hb : w.heap[b]? = some (.cells #[p, v] 91 (0, 0))) (hp : p = .pointer none ∨ p = .pointer (some ⟨b, 0, none⟩))
    (hown : w.ownsRow 0 5 1 v n xs) (hne : v.ownBlock ≠ some b) :
    Calls Tryd.prog 56 #[.pointer (some ⟨b, 0, none⟩)] w fun e w' => e = .returned (.tuple #[]) ∧ w'.heap[b]? = some (.cells #[.pointer (some ⟨b, 0, none⟩), v] 91 (0, 0)) ∧
      w'.ownsRow 0 5 1 v n xs ∧ w'.heap.size = w.heap.size ∧ WrKeep b v.ownBlock w w' ∧ ∀ k, k ≠ b → w'.heap[k]? = w.heap[k]? := by
  rcases hp with rfl | rfl
  · refine (Tryd.bcFresh b w v hb).mono ?_
    rintro e w' ⟨rfl, rfl⟩
    refine ⟨rfl, by simp [World.setCell, Array.getElem?_modify, hb], ?_, by simp [World.setCell], WrKeep.setCell _ _ _ _ _, fun k hk => heap_setCell_ne hk⟩
    exact hown.kept (row := some b) ⟨rfl, rfl, rfl, by simp [World.setCell], fun k _ hk => heap_setCell_ne (fun e => hk (by simp [e]))⟩ (.inr hne)
  · refine (Tryd.bcUsed b w v hb).mono ?_
    rintro e w' ⟨rfl, rfl⟩
    exact ⟨rfl, hb, hown, rfl, WrKeep.refl _ _ _, fun _ _ => rfl⟩

end Go.Proofs
end
section
namespace Go.Ab
open Go.ChangeShapes Go.WideShapes Go.ChangeAt Go.RowKit

variable {H : Type} {enc : TypeId × Value → H} {P : Program}

/-- The same of a row that lays variables. -/
theorem law_lifted_laid {C : Checked} {os : Os} {f : FuncId} {fn : Func} {s : ChangeSpec} {conds : List PathCond} {tb : TypeId} {l : List TypeId} {laid : List (String × DataW Unit)}
    (own : ownKnob C.prog.godebug = none) (started : os.Started) (noInit : C.prog.inits.idxOf? f = none) (hfn : C.prog.funcs[f]? = some fn)
    (witness : ∃ (w : World) (tape : Tape) (i : Input), w.os = os ∧ (w.forCall tape i).Shaped C.prog ∧ i.vars = [] ∧ Input.okWide C.prog (w.forCall tape i) .any w.heap.size f i ∧
      ((s.pre enc C.prog fn conds false (w.forCall tape i).memory i.args ∧ laidMetH C.prog laid (w.forCall tape i).memory) ∧ sizedMet enc C.prog fn (OpenSpec.ofChange s) false (w.forCall tape i).memory i.args) ∧ ({} : Assume).holds C.prog (lone (Frame.enter C.prog f i.args .normal) [] (w.forCall tape i)))
    (hvars : s.vars = []) (hres : fn.resultTypes = #[tb]) (htb : C.prog.underlying tb = some .bool)
    (hspec : ∀ ds : List (DataW H), ds.length = fn.params.toList.length → s.fn H ds = { results := [.lit (.bool true)], args := ds })
    (K : Kids C.prog (· < C.prog.types.size)) (hz : ((List.range C.prog.types.size).all fun t => match C.prog.underlying t with | some (.slice e) => decide (0 < C.prog.cellsOf e) | _ => true) = true)
    (hl : flatB C.prog l = true) (hT : topB C.prog l fn.params.toList = true)
    (call : ∀ avl, ShAll C.prog fn.params.toList avl → ∃ o : Prop, o ∧ CallOk C.prog f avl [] { av := .lit (.bool true), obl := o })
    (hF : ∀ w : World, laidMetH C.prog laid w → ∀ w' : World, (∀ b, b < w.heap.size → w'.heap[b]? = w.heap[b]?) → fctF w') :
    ReturnsInHanded {} C os f .any (fun w args => (s.pre enc C.prog fn conds false w args ∧ laidMetH C.prog laid w) ∧ sizedMet enc C.prog fn (OpenSpec.ofChange s) false w args) (s.post enc C.prog fn false true false false) := by
  refine returnsInHanded_of_change_and (X := fun w _ => laidMetH C.prog laid w) (fun _ _ _ hh h => h.of_heap hh) own started noInit hfn witness ?_
  intro W base args ds gs before hval hW _ _ hL _
  exact law_contract hvars hres htb hspec K hz hl hT call W (hF W hL) base args ds gs before hval hW

end Go.Ab
end

/- What ring.New answers. No condition. -/
import Derived.Test.YtjjjeolcapebbaaGreatDoorM07
import Derived.Test.YtjjjeolcapebbaaGreatDoorM13
import Derived.Test.YtjjjeolcapebbaaGreatDoorTy
import Derived.Laws.Externs
import Derived.Shelf.Unicode.CaseLaid
import Derived.Lib.RuneBytes
import Derived.Test.YtjjjeolcapebbaaGreatDoorM09
import Derived.Shelf.SlIterI.Collect
import Derived.Test.YtjjjeolcapebbaaGreatDoorGl
section
namespace Go.Proofs
open Go.Ab
noncomputable def gRingNew (x0 x1 x2 : Int) : Option (Option Unit × Int) :=
  bif (pickB (pickB (pickB (ltI x0 1) true (ltI 4096 x0)) true (ltI x1 0)) true (ltI x2 0)) then (
    some (none, 5)
  ) else (
    some (some (), 0)
  )
end Go.Proofs
end
section
/- What a run on fixed data answers. No condition. -/
namespace Go.Proofs
def gAwakeP : Option Bool := some true
end Go.Proofs
end
section
namespace Go.Proofs
open Go.RowKit Go.Ab

theorem Tryz.ccSize : (Tryz.prog.info? 141).map (·.size) = some 2 := by kernel_rfl
theorem Tryz.ccLies : liesAt Tryz.prog Tryz.prog.depth 143 (2 / Tryz.prog.cellsOf 143) 0 141 1 = true := by kernel_rfl
theorem Tryz.byteI : (Tryz.prog.info? 5).map (fun i => (i.zero, i.size, i.bytes)) = some (some (.int .u8 0), 1, 1) := by kernel_rfl

set_option maxHeartbeats 1000000 in
set_option maxRecDepth 100000 in
theorem Tryz.ccFresh (b : Nat) (w : World) (v : Value) (hb : w.heap[b]? = some (.cells #[.pointer none, v] 143 (0, 0))) :
    Calls Tryz.prog 192 #[.pointer (some ⟨b, 0, none⟩)] w fun e w' => e = .returned (.tuple #[]) ∧ w' = w.setCell ⟨b, 0, none⟩ (.pointer (some ⟨b, 0, none⟩)) := by
  obtain ⟨j, hj, hjs⟩ := Option.map_eq_some_iff.1 Tryz.ccSize
  have h0 : w.cell? ⟨b, 0, none⟩ = some (.pointer none) := by rw [Lib.cell_of_heap hb]; rfl
  have hsh : w.shape? b = some (143, 2) := by simp [World.shape?, hb]
  have hfz : w.frozen? ⟨b, 0, none⟩ = false := Lib.frozen_of_heap hb 0
  go_enter Tryz.func192, Tryz.ntmps192
  go_wp2
  rw [Lib.run_to_unsafe w ⟨b, 0, none⟩ Tryz.underlying139 Tryz.underlying476 hj (by rw [hjs]; decide) hsh (Nat.zero_lt_succ 1)]
  simp only [Result.andThen]
  rw [Oper.upon_value]
  go_wp2
  rw [run_callFunc_extern Tryz.func273 (by kernel_rfl) (by kernel_rfl) (by kernel_rfl) (e := Extern.AbiNoEscape.same) (by kernel_rfl)]
  rw [Lib.run_noEscape]
  simp only [Result.andThen]
  rw [Oper.upon_value]
  go_wp2
  rw [Lib.run_from_unsafe w ⟨b, 0, none⟩ Tryz.underlying476 Tryz.underlying139 hj hsh Tryz.ccLies]
  simp only [Result.andThen]
  rw [Oper.upon_value]
  go_wp2
  go_end0
  exact ⟨rfl, rfl⟩

set_option maxHeartbeats 1000000 in
set_option maxRecDepth 100000 in
theorem Tryz.ccUsed (b : Nat) (w : World) (v : Value) (hb : w.heap[b]? = some (.cells #[.pointer (some ⟨b, 0, none⟩), v] 143 (0, 0))) :
    Calls Tryz.prog 192 #[.pointer (some ⟨b, 0, none⟩)] w fun e w' => e = .returned (.tuple #[]) ∧ w' = w := by
  obtain ⟨j, hj, hjs⟩ := Option.map_eq_some_iff.1 Tryz.ccSize
  have h0 : w.cell? ⟨b, 0, none⟩ = some (.pointer (some ⟨b, 0, none⟩)) := by rw [Lib.cell_of_heap hb]; rfl
  go_enter Tryz.func192, Tryz.ntmps192
  go_wp2
  rw [Lib.run_neq_ptr_same w _ Tryz.underlying139 hj]
  go_wp2
  go_end0
  exact ⟨rfl, rfl⟩

theorem Tryz.ccAny (b : Nat) (w : World) (p v : Value) (n : Nat) (xs : List Value) (hb : w.heap[b]? = some (.cells #[p, v] 143 (0, 0))) (hp : p = .pointer none ∨ p = .pointer (some ⟨b, 0, none⟩))
    (hown : w.ownsRow 0 5 1 v n xs) (hne : v.ownBlock ≠ some b) :
    Calls Tryz.prog 192 #[.pointer (some ⟨b, 0, none⟩)] w fun e w' => e = .returned (.tuple #[]) ∧ w'.heap[b]? = some (.cells #[.pointer (some ⟨b, 0, none⟩), v] 143 (0, 0)) ∧
      w'.ownsRow 0 5 1 v n xs ∧ w'.heap.size = w.heap.size ∧ WrKeep b v.ownBlock w w' ∧ ∀ k, k ≠ b → w'.heap[k]? = w.heap[k]? := by
  rcases hp with rfl | rfl
  · refine (Tryz.ccFresh b w v hb).mono ?_
    rintro e w' ⟨rfl, rfl⟩
    refine ⟨rfl, by simp [World.setCell, Array.getElem?_modify, hb], ?_, by simp [World.setCell], WrKeep.setCell _ _ _ _ _, fun k hk => heap_setCell_ne hk⟩
    exact hown.kept (row := some b) ⟨rfl, rfl, rfl, by simp [World.setCell], fun k _ hk => heap_setCell_ne (fun e => hk (by simp [e]))⟩ (.inr hne)
  · refine (Tryz.ccUsed b w v hb).mono ?_
    rintro e w' ⟨rfl, rfl⟩
    exact ⟨rfl, hb, hown, rfl, WrKeep.refl _ _ _, fun _ _ => rfl⟩

end Go.Proofs
end
section
namespace Go.Ab
/-- What the text of a Writer asks of its bytes. -/
def TextB (bs : List Int) : Prop := bs ≠ [] ∧ ∀ x ∈ bs, 0 ≤ x ∧ x < 256
instance (bs : List Int) : Decidable (TextB bs) := inferInstanceAs (Decidable (bs ≠ [] ∧ ∀ x ∈ bs, 0 ≤ x ∧ x < 256))
end Go.Ab
end
section
namespace Go.Ab
/-- unicode.IsLetter, IsDigit, ToLower, by Go's own tables; a rune's bytes. -/
noncomputable def letterR (r : Int) : Bool := Lib.isLetterU r
noncomputable def digitR (r : Int) : Bool := Lib.isDigitU r
noncomputable def lowerR (r : Int) : Int := Lib.toLowerU r
def runeZ (r : Int) : List Int := Lib.encodeRuneZ r
def I32B (r : Int) : Prop := -2147483648 ≤ r ∧ r ≤ 2147483647
instance (r : Int) : Decidable (I32B r) := inferInstanceAs (Decidable (_ ∧ _))
end Go.Ab
end
section

end
section
namespace Go.Ab
open Go.Proofs Go.Maps Go.RowKit Go.Sort Go.Shelf ChangeMaps
/-- A range over the map at b is under way at r: 'es' have come. -/
structure KR (w : World) (b r : Nat) (ents : Array MapEntry) (clock : Nat) (es : List MapEntry) : Prop where
  map : w.heap[b]? = some (.map ents clock)
  it : ∃ c0, clock ≤ c0 ∧ w.heap[r]? = some (.mapIter (some b) clock (es.map (·.born)).toArray c0)
  sub : ∀ e ∈ es, e ∈ ents.toList
  nd : (es.map (·.born)).Nodup
variable {P : Program} {w : World} {b r : Nat} {ents : Array MapEntry} {clock : Nat} {es : List MapEntry}
theorem KR.walk (h : KR w b r ents clock es) : ∃ o : Obj, w.heap[r]? = some o ∧ o.isWalk = true := by
  obtain ⟨c0, _, h⟩ := h.it
  exact ⟨_, h, rfl⟩
theorem KR.of_walks {w' : World} (h : KR w b r ents clock es) (k : KeepsWalks w w') : KR w' b r ents clock es := by
  obtain ⟨c0, h1, h2⟩ := h.it
  exact ⟨k.same _ _ h.map rfl, ⟨c0, h1, k.same _ _ h2 rfl⟩, h.sub, h.nd⟩
theorem KR.left (h : KR w b r ents clock es) : w.rangeLeft b r = (leftOf ents (es.map (·.born)).toArray).size := by
  obtain ⟨c0, h1, h2⟩ := h.it
  simp only [World.rangeLeft, h.map, h2]
theorem range_KR {t k e : TypeId} (ht : P.underlying t = some (.map k e)) (hb : w.heap[b]? = some (.map ents clock)) :
    ∃ w', (Instr.range t (.map (some b))).run P w = .ok (.pointer (some ⟨w.heap.size, 0, none⟩)) w' ∧ KR w' b w.heap.size ents clock [] ∧ w.grownBy w' none ∧ w'.heap.size = w.heap.size + 1 := by
  have hlt : b < w.heap.size := (Array.getElem?_eq_some_iff.1 hb).1
  exact ⟨_, run_range_map w t k e b ents clock ht hb, ⟨((MapKept.heap_alloc w _).2 b hlt).trans hb, ⟨clock, Nat.le_refl _, (MapKept.heap_alloc w _).1⟩, fun _ h => (by cases h), .nil⟩, World.grownBy_alloc w _ none, by simp⟩
theorem KR.next (h : KR w b r ents clock es) (hold : ∀ x ∈ ents.toList, x.born < clock) (hnd : (ents.toList.map (·.born)).Nodup) (ty : TypeId) :
    (es.Perm ents.toList ∧ (Instr.next (.pointer (some ⟨r, 0, none⟩)) false ty).run P w = .ok (.tuple #[.bool false]) w) ∨
    ∃ e w', e ∈ ents.toList ∧ (Instr.next (.pointer (some ⟨r, 0, none⟩)) false ty).run P w = .ok (.tuple #[.bool true, e.key, e.val]) w' ∧ KR w' b r ents clock (es ++ [e]) ∧ es.length < ents.size ∧ w'.rangeLeft b r < w.rangeLeft b r ∧
      w.grownBy w' (some r) ∧ w'.heap.size = w.heap.size ∧ (Instr.entry (.pointer (some ⟨r, 0, none⟩))).run P w' = .ok (.tuple #[e.key, e.val]) w' := by
  obtain ⟨c0, hc, hr⟩ := h.it
  have hne : r ≠ b := fun e => by rw [e, h.map] at hr; cases hr
  have hmn : ents.toList.Nodup := by
    unfold List.Nodup at hnd ⊢
    rw [List.pairwise_map] at hnd
    exact hnd.imp fun h q => h (by rw [q])
  have hen : es.Nodup := by
    have := h.nd
    unfold List.Nodup at this ⊢
    rw [List.pairwise_map] at this
    exact this.imp fun h q => h (by rw [q])
  rcases run_next_at (P := P) w ty r b clock c0 (es.map (·.born)).toArray ents clock hr h.map hold hc with ⟨h0, hrun⟩ | ⟨e, he, w1, hal, hrun⟩
  · left
    refine ⟨(List.perm_ext_iff_of_nodup hen hmn).2 fun x => ⟨h.sub x, fun hx => ?_⟩, hrun⟩
    have := all_seen ents _ h0 x hx
    simp only [List.contains_toArray, List.contains_iff_mem, List.mem_map] at this
    obtain ⟨y, hy, hyx⟩ := this
    rw [← nodup_inj hnd (h.sub y hy) hx hyx]; exact hy
  · right
    obtain ⟨hem, hes⟩ := mem_left he
    simp only [List.contains_toArray, ← Bool.not_eq_true, List.contains_iff_mem] at hes
    have hr1 : w1.heap[r]? = some (.mapIter (some b) clock (es.map (·.born)).toArray c0) := by rcases hal with rfl | rfl <;> exact hr
    have hb1 : w1.heap[b]? = some (.map ents clock) := by rcases hal with rfl | rfl <;> exact h.map
    have hset := MapKept.heap_set (o' := .mapIter (some b) clock ((es.map (·.born)).toArray.push e.born) clock) hr1
    have hb' : (ChangeMaps.setBlock w1 r (.mapIter (some b) clock ((es.map (·.born)).toArray.push e.born) clock)).heap[b]? = some (.map ents clock) := (hset.2 b (fun e1 => hne e1.symm)).trans hb1
    have hlen : es.length < ents.size := by
      have hx : e ∉ es := fun hx => hes (List.mem_map.2 ⟨e, hx, rfl⟩)
      have := nodup_le (l := e :: es) (m := ents.toList) (List.nodup_cons.2 ⟨hx, hen⟩) fun x hx => by
        rcases List.mem_cons.1 hx with rfl | hx
        · exact hem
        · exact h.sub x hx
      simp only [List.length_cons, Array.length_toList] at this
      omega
    have hpush : (es.map (·.born)).toArray.push e.born = ((es ++ [e]).map (·.born)).toArray := by simp
    have hk : KR (ChangeMaps.setBlock w1 r (.mapIter (some b) clock ((es.map (·.born)).toArray.push e.born) clock)) b r ents clock (es ++ [e]) :=
      ⟨hb', ⟨clock, Nat.le_refl _, by rw [← hpush]; exact hset.1⟩, fun x hx => by
        rcases List.mem_append.1 hx with hx | hx
        · exact h.sub x hx
        · rw [List.mem_singleton.1 hx]; exact hem, by
        rw [List.map_append, List.nodup_append]
        refine ⟨h.nd, by simp, fun x hx y hy => ?_⟩
        rintro rfl
        rw [List.mem_singleton.1 hy] at hx
        exact hes hx⟩
    refine ⟨e, _, hem, hrun, hk, hlen, ?_, ?_, ?_, run_entry_at _ r b clock _ ents clock e hset.1 hb' hem hnd⟩
    · rw [hk.left, h.left, ← hpush]
      exact left_shrinks ents _ e he
    · rcases hal with rfl | rfl <;> exact ⟨rfl, rfl, rfl, by simp [ChangeMaps.setBlock], fun i _ hi => hset.2 i (fun e1 => hi (by rw [e1]))⟩
    · rcases hal with rfl | rfl <;> simp [ChangeMaps.setBlock]
section
variable {F : Fence} {n : Nat} {ops : Array Oper} {rest : List Oper} {o : Oper} {a : Act} {Q : Exit → Act → World → Prop}
theorem wpListIn_range_K (hg : o.guard = none) (m : Operand) (t : TypeId) (hop : o.op = Op.range t m) {k e : TypeId} (ht : P.underlying t = some (.map k e)) (hm : a.eval m = .map (some b)) (hb : w.heap[b]? = some (.map ents clock))
    (hK : ∀ w', KR w' b w.heap.size ents clock [] → w.grownBy w' none → w'.heap.size = w.heap.size + 1 → wpListIn F n P ops Q rest (a.put o.dst (.pointer (some ⟨w.heap.size, 0, none⟩))) w') :
    wpListIn F n P ops Q (o :: rest) a w := by
  refine wpListIn_plain hg fun K' hK' => ?_
  obtain ⟨w', hrun, r1, r2, r3⟩ := range_KR (P := P) ht hb
  unfold Oper.wpIn
  refine ⟨?_, ?_⟩
  · simp [Oper.about, hop]
  · rw [Oper.semAt_plain F _ _ (by rw [hop]; intro c hc'; cases hc')]
    simp [execOp, hop, hm, hrun, Result.andThen]
    exact hK' _ _ (hK w' r1 r2 r3)
theorem wpListIn_next_K (hg : o.guard = none) (it : Operand) (hop : o.op = Op.next it false) (hit : a.eval it = .pointer (some ⟨r, 0, none⟩)) (h : KR w b r ents clock es) (hold : ∀ x ∈ ents.toList, x.born < clock) (hnd : (ents.toList.map (·.born)).Nodup)
    (hDone : es.Perm ents.toList → wpListIn F n P ops Q rest (a.put o.dst (.tuple #[.bool false])) w)
    (hMore : ∀ (e : MapEntry) (w' : World), e ∈ ents.toList → KR w' b r ents clock (es ++ [e]) → es.length < ents.size → w'.rangeLeft b r < w.rangeLeft b r → w.grownBy w' (some r) → w'.heap.size = w.heap.size →
      (Instr.entry (.pointer (some ⟨r, 0, none⟩))).run P w' = .ok (.tuple #[e.key, e.val]) w' → wpListIn F n P ops Q rest (a.put o.dst (.tuple #[.bool true, e.key, e.val])) w') :
    wpListIn F n P ops Q (o :: rest) a w := by
  refine wpListIn_plain hg fun K' hK' => ?_
  unfold Oper.wpIn
  refine ⟨by simp [Oper.about, hop], ?_⟩
  rw [Oper.semAt_plain F _ _ (by rw [hop]; intro c hc'; cases hc')]
  rcases h.next (P := P) hold hnd o.type with ⟨h0, hrun⟩ | ⟨e, w', hem, hrun, hk, hlen, hlt, hgr, hsz, hen⟩
  · simp [execOp, hop, hit, hrun, Result.andThen]
    exact hK' _ _ (hDone h0)
  · simp [execOp, hop, hit, hrun, Result.andThen]
    exact hK' _ _ (hMore e w' hem hk hlen hlt hgr hsz hen)
end
end Go.Ab
end
section
namespace Go.Ab
open Go.Proofs Go.RowKit

@[simp] noncomputable def isLetterS : Sp
  | [.lit (.int .i32 r)], _ => some { av := .lit (.bool (letterR r)), obl := I32B r }
  | _, _ => none
@[simp] noncomputable def isDigitS : Sp
  | [.lit (.int .i32 r)], _ => some { av := .lit (.bool (digitR r)), obl := I32B r }
  | _, _ => none
@[simp] noncomputable def toLowerS : Sp
  | [.lit (.int .i32 r)], _ => some { av := .lit (.int .i32 (lowerR r)) }
  | _, _ => none

/-- A call that only makes blocks, and hands back a plain value. -/
theorem ok_below {P : Program} {f : FuncId} {g : G} {vs : List Value} {v : Value} (hent : ∀ args w, (callFunc f args).run P w = .ok (.enter f args) w) (sm : Sim g)
    (hc : Calls P f vs.toArray g.w fun e w' => e = .returned v ∧ Below g.w.heap.size g.w w') {ob : Prop} : 
    (callFunc f vs.toArray).run P g.w = .ok (.enter f vs.toArray) g.w ∧ Calls P f vs.toArray g.w fun e w' => ∃ u, e = .returned u ∧ Post g { av := .lit v, obl := ob } u w' := by
  refine ⟨hent _ _, hc.mono ?_⟩
  rintro e w' ⟨rfl, hb⟩
  exact ⟨v, rfl, g.β, g.ρ, sim_below hb sm, .lit _, keep_below hb⟩
end Go.Ab
namespace Go.Proofs
open Go.RowKit Go.Ab
theorem gIsLetter.ok : SpecOk Tryz.prog 196 isLetterS := by
  intro l M out h
  unfold isLetterS at h
  split at h
  · rename_i r
    cases h
    intro g vs hM sm hr ho
    cases hr with | cons hv hr => cases hr with | nil =>
    cases hv
    exact ok_below (fun _ _ => by kernel_rfl) sm (Any.unicode_IsLetter_all Tryz.laysLetter Tryz.gProps r g.w ho.1 ho.2 sm.fct.here.1 sm.fct.here.2.1)
  · cases h
theorem gIsDigit.ok : SpecOk Tryz.prog 197 isDigitS := by
  intro l M out h
  unfold isDigitS at h
  split at h
  · rename_i r
    cases h
    intro g vs hM sm hr ho
    cases hr with | cons hv hr => cases hr with | nil =>
    cases hv
    exact ok_below (fun _ _ => by kernel_rfl) sm (Any.unicode_IsDigit_all Tryz.laysDigit r g.w ho.1 ho.2 sm.fct.here.2.2.1)
  · cases h
theorem gToLower.ok : SpecOk Tryz.prog 341 toLowerS := by
  intro l M out h
  unfold toLowerS at h
  split at h
  · rename_i r
    cases h
    intro g vs hM sm hr ho
    cases hr with | cons hv hr => cases hr with | nil =>
    cases hv
    refine ok_below (fun _ _ => by kernel_rfl) sm ((Any.unicode_ToLower_laid Tryz.laysLower r g.w sm.fct.here.2.2.2).mono ?_)
    rintro e w' ⟨rfl, q, rfl⟩
    exact ⟨rfl, below_drewN _ _⟩
  · cases h
end Go.Proofs
end
section

end
section
namespace Go.Ab
/-- What the text of a Builder asks of its bytes. -/
def TextE (bs : List Int) : Prop := ∀ x ∈ bs, 0 ≤ x ∧ x < 256
instance (bs : List Int) : Decidable (TextE bs) := inferInstanceAs (Decidable (∀ x ∈ bs, 0 ≤ x ∧ x < 256))
end Go.Ab
end
section
namespace Go.Ab
end Go.Ab
end

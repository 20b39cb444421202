/- Maps whose values own what they point to: an entry is opened, its objects come up, and it is closed again. No condition: over any program. -/
import Derived.Test.YtoiieebljbhpbaaGreatDoorAb9
import Derived.Test.YtoiieebljbhpbaaGreatDoorKx
import Derived.Shelf.SlIterI.Collect
section
namespace Go.Ab
def Pk (N : List AObj) (V : AV) (w : World) (C : Addr → Prop) (bs : Nat → Prop) (v : Value) : Prop :=
 ∃ g : G, g.M = N ∧ g.w = w ∧ Sim g ∧ R g V v ∧ (∀ a, g.regM a ↔ bs a.block) ∧ ∀ a, g.X a ↔ C a ∧ ¬ bs a.block

theorem Pk.keep {N : List AObj} {V : AV} {w : World} {C : Addr → Prop} {w' : World} {C' : Addr → Prop} {bs : Nat → Prop} {v : Value} (k : HK w C w' C' bs) (h : Pk N V w C bs v) : Pk N V w' C' bs v := by
 obtain ⟨g, rfl, rfl, s, r, h1, h2⟩ := h
 have hreg : ∀ a, g.reg a ↔ C a := fun a => by
  constructor
  ·rintro (h | h)
   ·exact ((h2 a).1 h).1
   ·exact k.inC a ((h1 a).1 h)
  ·intro h
   by_cases hb : bs a.block
   ·exact .inr ((h1 a).2 hb)
   ·exact .inl ((h2 a).2 ⟨h, hb⟩)
 let g' : G := ⟨g.M, g.β, g.ρ, w', fun a => C' a ∧ ¬ bs a.block⟩
 have hreg' : ∀ a, g'.reg a ↔ C' a := fun a => by
  constructor
  ·rintro (h | h)
   ·exact h.1
   ·exact k.inC' a ((h1 a).1 h)
  ·intro h
   by_cases hb : bs a.block
   ·exact .inr ((h1 a).2 hb)
   ·exact .inl ⟨h, hb⟩
 have k0 : Keep0 g g' := ⟨Nat.le_refl _, fun _ _ => rfl, fun _ _ e h => ⟨e, h, Nat.le_refl _, fun _ => rfl⟩, k.size, fun a x hx hr => k.cells a x hx fun q => hr ((hreg a).2 q), fun a ha hr q => k.regs a ha (fun q' => hr ((hreg a).2 q')) ((hreg' a).1 q),
  fun b hb hr => k.blocks b hb fun off q => hr off ((hreg _).2 q), k.io⟩
 have hin : ∀ a, g'.reg a → a.block < g'.w.heap.size := fun a ha => k.inb' a ((hreg' a).1 ha)
 have hblk : ∀ {i : Nat} {o : AObj} {a : Addr}, g.M[i]? = some o → o.covers (g.β i) (g.ρ i) a → w'.heap[a.block]? = g.w.heap[a.block]? := fun {i o a} hi hc => k.own _ ((h1 a).1 ⟨i, o, hi, hc⟩)
 have hwh : ∀ {i : Nat} {o : AObj} {b : Nat}, g.M[i]? = some o → o.whole (g.β i) (g.ρ i) b → w'.heap[b]? = g.w.heap[b]? := fun {i o b} hi hw => hblk (a := ⟨b, 0, none⟩) hi hw.covers
 refine ⟨g', rfl, rfl, ?_, r.keep0 k0, h1, fun a => Iff.rfl⟩
 refine ⟨s.fct.keep0 k0, fun i cells hi => ?_, fun i t pos hi => (hwh hi rfl).trans (s.iter i t pos hi), fun t e ht n hn => ?_, s.disj, hin, fun a ha q => ha.2 ((h1 a).1 q), fun i es hi => ?_, fun i es vis cur t hi => ?_, fun i φ hi => ?_, fun i P cur hi => ?_, fun i z els hi => ?_⟩
 ·obtain ⟨xs, T, q1, q2, q3, q4⟩ := s.blk i cells hi
  exact ⟨xs, T, (hwh hi rfl).trans q1, q2, fun j hj => (q3 j hj).keep0 k0, q4⟩
 ·obtain ⟨x, q1, q2⟩ := s.room t e ht n hn
  have hb : w'.heap[(g.ρ t).b]? = g.w.heap[(g.ρ t).b]? := hblk (a := ⟨(g.ρ t).b, (g.ρ t).off + n, none⟩) ht ⟨rfl, by simp, by simpa using hn⟩
  exact ⟨x, by simpa only [g', World.cell?, hb] using q1, by simpa only [g', World.frozen?, hb] using q2⟩
 ·obtain ⟨o, q1, q2⟩ := s.mapo i es hi
  exact ⟨o, (hwh hi rfl).trans q1, q2.keep0 k0⟩
 ·obtain ⟨t1, t2, o, oi, q1, q2, q3⟩ := s.mapr i es vis cur t hi
  exact ⟨t1, t2, o, oi, (hwh hi (.inl rfl)).trans q1, (hwh hi (.inr rfl)).trans q2, q3.keep0 k0⟩
 ·have e1 := hwh hi (.inl rfl)
  have e2 := hwh hi (.inr rfl)
  show φ _ _ (w'.heap[g.β i]?) (w'.heap[(g.ρ i).b]?)
  rw [e1, e2]; exact s.opq i φ hi
 ·exact s.ownKeep k0 hin hi hi rfl rfl fun b hb => hwh hi hb
 ·exact (s.arr i z els hi).keep0 k0 fun hne => hwh hi ⟨hne, rfl⟩
inductive Rows {K T : Type} (kE : K → Value) (N : T → List AObj) (V : T → AV) (w : World) (C : Addr → Prop) (hole : Option Value) : (Nat → Prop) → List (K × T) → List (Value × Value) → Prop
 | nil (bs : Nat → Prop) (h : ∀ b, ¬ bs b) : Rows kE N V w C hole bs [] []
 | hole (bs : Nat → Prop) (k : K) (x : T) (u : Value) (r : List (K × T)) (l : List (Value × Value)) (hk : hole = some (kE k)) (q : Rows kE N V w C hole bs r l) : Rows kE N V w C hole bs ((k, x) :: r) ((kE k, u) :: l)
 | cons (bs b1 b2 : Nat → Prop) (k : K) (x : T) (u : Value) (r : List (K × T)) (l : List (Value × Value)) (hk : hole ≠ some (kE k)) (p : Pk (N x) (V x) w C b1 u) (hb : ∀ b, bs b ↔ b1 b ∨ b2 b) (hd : ∀ b, b1 b → ¬ b2 b)
   (q : Rows kE N V w C hole b2 r l) : Rows kE N V w C hole bs ((k, x) :: r) ((kE k, u) :: l)

section
variable {K T : Type} {kE : K → Value} {N : T → List AObj} {V : T → AV} {w : World} {C : Addr → Prop} {hole : Option Value}

theorem Rows.keep {w' : World} {C' : Addr → Prop} {bs : Nat → Prop} {rows : List (K × T)} {l : List (Value × Value)} (h : Rows kE N V w C hole bs rows l) (k : HK w C w' C' bs) : Rows kE N V w' C' hole bs rows l := by
 induction h with
 | nil bs h => exact .nil bs h
 | hole bs c x u r l hk _ ih => exact .hole bs c x u r l hk (ih k)
 | cons bs b1 b2 c x u r l hk p hb hd _ ih =>
   have hsub : ∀ {b0 : Nat → Prop}, (∀ b, b0 b → bs b) → HK w C w' C' b0 := fun {b0} h => ⟨k.size, k.cells, k.regs, k.blocks, k.io, fun b hb => k.own b (h b hb), fun a ha => k.inC a (h _ ha), fun a ha => k.inC' a (h _ ha), k.inb'⟩
   exact .cons bs b1 b2 c x u r l hk (p.keep (hsub fun b h => (hb b).2 (.inl h))) hb hd (ih (hsub fun b h => (hb b).2 (.inr h)))
theorem Rows.rehole {hole' : Option Value} {bs : Nat → Prop} {rows : List (K × T)} {l : List (Value × Value)} (h : Rows kE N V w C hole bs rows l) (h1 : ∀ e ∈ l, hole ≠ some e.1) (h2 : ∀ e ∈ l, hole' ≠ some e.1) : Rows kE N V w C hole' bs rows l := by
 induction h with
 | nil bs h => exact .nil bs h
 | hole bs k x u r l hk _ _ => exact absurd hk (h1 _ (.head _))
 | cons bs b1 b2 c x u r l hk p hb hd _ ih => exact .cons bs b1 b2 c x u r l (h2 _ (.head _)) p hb hd (ih (fun e he => h1 e (.tail _ he)) fun e he => h2 e (.tail _ he))
end
def findM {K T : Type} (eq : K → K → Bool) (k : K) : List (K × T) → Option T
 | [] => none
 | (c, x) :: r => if eq k c = true then some x else findM eq k r
def KeyEq {K : Type} (eq : K → K → Bool) (kE : K → Value) : Prop := ∀ a b, eq a b = true ↔ kE a = kE b

section
variable {K T : Type} {kE : K → Value} {N : T → List AObj} {V : T → AV} {w : World} {C : Addr → Prop} {eq : K → K → Bool}
theorem Rows.open (he : KeyEq eq kE) {k : K} {x : T} {bs : Nat → Prop} {rows : List (K × T)} {l : List (Value × Value)} (h : Rows kE N V w C none bs rows l) (hn : (l.map (·.1)).Nodup) (hf : findM eq k rows = some x) :
  ∃ b1 b2 u, (kE k, u) ∈ l ∧ Pk (N x) (V x) w C b1 u ∧ Rows kE N V w C (some (kE k)) b2 rows l ∧ (∀ b, bs b ↔ b1 b ∨ b2 b) ∧ ∀ b, b1 b → ¬ b2 b := by
 generalize hh : (none : Option Value) = hole at h
 induction h with
 | nil bs h => cases hf
 | hole bs c y u r l hk _ _ => subst hh; cases hk
 | cons bs b1 b2 c y u r l hk p hb hd q ih =>
   subst hh
   unfold findM at hf
   simp only [List.map_cons, List.nodup_cons] at hn
   cases hc : eq k c with
   | true =>
     simp only [hc, if_true] at hf
     obtain rfl : y = x := Option.some.inj hf
     have hkc := (he k c).1 hc
     refine ⟨b1, b2, u, by rw [hkc]; exact .head _, p, ?_, hb, hd⟩
     rw [hkc]
     refine .hole b2 c y u r l rfl (q.rehole (fun e _ h => by cases h) fun e hm h => ?_)
     exact hn.1 (Option.some.inj h ▸ List.mem_map.2 ⟨e, hm, rfl⟩)
   | false =>
     simp only [hc, Bool.false_eq_true, if_false] at hf
     obtain ⟨d1, d2, v, h1, h2, h3, h4, h5⟩ := ih hn.2 hf
     have hne : kE k ≠ kE c := fun h => by rw [(he k c).2 h] at hc; cases hc
     refine ⟨d1, fun b => b1 b ∨ d2 b, v, .tail _ h1, h2, .cons _ b1 d2 c y u r l (fun h => hne (Option.some.inj h)) p (fun b => Iff.rfl) (fun b h q => hd b h ((h4 b).2 (.inr q))) h3, fun b => ?_, fun b h q => ?_⟩
     ·rw [hb, h4]
      constructor
      ·rintro (h | h | h)
       ·exact .inr (.inl h)
       ·exact .inl h
       ·exact .inr (.inr h)
      ·rintro (h | h | h)
       ·exact .inr (.inl h)
       ·exact .inl h
       ·exact .inr (.inr h)
     ·rcases q with q | q
      ·exact hd b q ((h4 b).2 (.inl h))
      ·exact h5 b h q
theorem Rows.close (he : KeyEq eq kE) {k : K} {x : T} {b1 b2 bs : Nat → Prop} {rows : List (K × T)} {l : List (Value × Value)} {u : Value} (h : Rows kE N V w C (some (kE k)) b2 rows l) (hn : (l.map (·.1)).Nodup) (hm : (kE k, u) ∈ l)
  (p : Pk (N x) (V x) w C b1 u) (hb : ∀ b, bs b ↔ b1 b ∨ b2 b) (hd : ∀ b, b1 b → ¬ b2 b) : Rows kE N V w C none bs (setM eq k x rows) l := by
 generalize hh : some (kE k) = hole at h
 induction h generalizing bs with
 | nil => cases hm
 | hole b2 c y v r l hk q ih =>
   subst hh
   have hkc : kE k = kE c := Option.some.inj hk
   simp only [List.map_cons, List.nodup_cons] at hn
   have hu : u = v := by
    rcases List.mem_cons.1 hm with hm | hm
    ·exact (Prod.mk.inj hm).2
    ·exact absurd (List.mem_map.2 ⟨_, hm, hkc⟩) hn.1
   subst hu
   have hq : Rows kE N V w C none b2 r l := q.rehole (fun e hm h => hn.1 (by rw [← hkc, Option.some.inj h]; exact List.mem_map.2 ⟨e, hm, rfl⟩)) fun _ _ h => by cases h
   simp only [setM, (he k c).2 hkc, if_true]
   rw [← hkc]
   exact .cons bs b1 b2 k x u r l (fun h => by cases h) p hb hd hq
 | cons b2 d1 d2 c y v r l hk p' hb' hd' q ih =>
   subst hh
   have hne : kE k ≠ kE c := fun h => hk (by rw [h])
   simp only [List.map_cons, List.nodup_cons] at hn
   have hm' : (kE k, u) ∈ l := by
    rcases List.mem_cons.1 hm with hm | hm
    ·exact absurd (Prod.mk.inj hm).1 hne
    ·exact hm
   have hc : eq k c = false := by
    cases hc : eq k c with
    | true => exact absurd ((he k c).1 hc) hne
    | false => rfl
   have ih' := ih (bs := fun b => b1 b ∨ d2 b) hn.2 hm' (fun b => Iff.rfl) (fun b h q => hd b h ((hb' b).2 (.inr q)))
   simp only [setM, hc, Bool.false_eq_true, if_false]
   refine .cons bs d1 _ c y v _ l (fun h => by cases h) p' (fun b => ?_) (fun b h q => ?_) ih'
   ·rw [hb, hb']
    constructor
    ·rintro (h | h | h)
     ·exact .inr (.inl h)
     ·exact .inl h
     ·exact .inr (.inr h)
    ·rintro (h | h | h)
     ·exact .inr (.inl h)
     ·exact .inl h
     ·exact .inr (.inr h)
   ·rcases q with q | q
    ·exact hd b q ((hb' b).2 (.inl h))
    ·exact hd' b h q
theorem Rows.push {k : K} {x : T} {b1 b2 bs : Nat → Prop} {rows : List (K × T)} {l : List (Value × Value)} {u : Value} (h : Rows kE N V w C none b2 rows l) (p : Pk (N x) (V x) w C b1 u) (hb : ∀ b, bs b ↔ b1 b ∨ b2 b) (hd : ∀ b, b1 b → ¬ b2 b) :
  Rows kE N V w C none bs (rows ++ [(k, x)]) (l ++ [(kE k, u)]) := by
 generalize hh : (none : Option Value) = hole at h
 induction h generalizing bs with
 | nil b2 h =>
   subst hh
   exact .cons bs b1 b2 k x u [] [] (fun h => by cases h) p hb hd (.nil b2 h)
 | hole _ _ _ _ _ _ hk _ _ => subst hh; cases hk
 | cons b2 d1 d2 c y v r l hk p' hb' hd' q ih =>
   subst hh
   refine .cons bs d1 (fun b => b1 b ∨ d2 b) c y v _ _ (fun h => by cases h) p' (fun b => ?_) (fun b h q => ?_) (ih (fun b => Iff.rfl) (fun b h q => hd b h ((hb' b).2 (.inr q))))
   ·rw [hb, hb']
    constructor
    ·rintro (h | h | h)
     ·exact .inr (.inl h)
     ·exact .inl h
     ·exact .inr (.inr h)
    ·rintro (h | h | h)
     ·exact .inr (.inl h)
     ·exact .inl h
     ·exact .inr (.inr h)
   ·rcases q with q | q
    ·exact hd b q ((hb' b).2 (.inl h))
    ·exact hd' b h q

end

/-! ### An entry is opened -/
/-! ### And closed -/
def AObj.isRoom : AObj → Bool
 | .room _ => true
 | _ => false
end Go.Ab
end
section
namespace Go.Ab
open Go.Proofs Go.Maps Go.RowKit Go.Sort Go.Shelf ChangeMaps
structure KR (w : World) (b r : Nat) (ents : Array MapEntry) (clock : Nat) (es : List MapEntry) : Prop where
 map : w.heap[b]? = some (.map ents clock)
 it : ∃ c0, clock ≤ c0 ∧ w.heap[r]? = some (.mapIter (some b) clock (es.map (·.born)).toArray c0)
 sub : ∀ e ∈ es, e ∈ ents.toList
 nd : (es.map (·.born)).Nodup
variable {P : Program} {w : World} {b r : Nat} {ents : Array MapEntry} {clock : Nat} {es : List MapEntry}
theorem KR.walk (h : KR w b r ents clock es) : ∃ o : Obj, w.heap[r]? = some o ∧ o.isWalk = true := by
 obtain ⟨c0, _, h⟩ := h.it
 exact ⟨_, h, rfl⟩
theorem KR.of_walks {w' : World} (h : KR w b r ents clock es) (k : KeepsWalks w w') : KR w' b r ents clock es := by
 obtain ⟨c0, h1, h2⟩ := h.it
 exact ⟨k.same _ _ h.map rfl, ⟨c0, h1, k.same _ _ h2 rfl⟩, h.sub, h.nd⟩
theorem KR.left (h : KR w b r ents clock es) : w.rangeLeft b r = (leftOf ents (es.map (·.born)).toArray).size := by
 obtain ⟨c0, h1, h2⟩ := h.it
 simp only [World.rangeLeft, h.map, h2]
theorem range_KR {t k e : TypeId} (ht : P.underlying t = some (.map k e)) (hb : w.heap[b]? = some (.map ents clock)) :
  ∃ w', (Instr.range t (.map (some b))).run P w = .ok (.pointer (some ⟨w.heap.size, 0, none⟩)) w' ∧ KR w' b w.heap.size ents clock [] ∧ w.grownBy w' none ∧ w'.heap.size = w.heap.size + 1 := by
 have hlt : b < w.heap.size := (Array.getElem?_eq_some_iff.1 hb).1
 exact ⟨_, run_range_map w t k e b ents clock ht hb, ⟨((MapKept.heap_alloc w _).2 b hlt).trans hb, ⟨clock, Nat.le_refl _, (MapKept.heap_alloc w _).1⟩, fun _ h => (by cases h), .nil⟩, World.grownBy_alloc w _ none, by simp⟩
theorem KR.next (h : KR w b r ents clock es) (hold : ∀ x ∈ ents.toList, x.born < clock) (hnd : (ents.toList.map (·.born)).Nodup) (ty : TypeId) :
  (es.Perm ents.toList ∧ (Instr.next (.pointer (some ⟨r, 0, none⟩)) false ty).run P w = .ok (.tuple #[.bool false]) w) ∨
  ∃ e w', e ∈ ents.toList ∧ (Instr.next (.pointer (some ⟨r, 0, none⟩)) false ty).run P w = .ok (.tuple #[.bool true, e.key, e.val]) w' ∧ KR w' b r ents clock (es ++ [e]) ∧ es.length < ents.size ∧ w'.rangeLeft b r < w.rangeLeft b r ∧
    w.grownBy w' (some r) ∧ w'.heap.size = w.heap.size ∧ (Instr.entry (.pointer (some ⟨r, 0, none⟩))).run P w' = .ok (.tuple #[e.key, e.val]) w' := by
 obtain ⟨c0, hc, hr⟩ := h.it
 have hne : r ≠ b := fun e => by rw [e, h.map] at hr; cases hr
 have hmn : ents.toList.Nodup := by
  unfold List.Nodup at hnd ⊢
  rw [List.pairwise_map] at hnd
  exact hnd.imp fun h q => h (by rw [q])
 have hen : es.Nodup := by
  have := h.nd
  unfold List.Nodup at this ⊢
  rw [List.pairwise_map] at this
  exact this.imp fun h q => h (by rw [q])
 rcases run_next_at (P := P) w ty r b clock c0 (es.map (·.born)).toArray ents clock hr h.map hold hc with ⟨h0, hrun⟩ | ⟨e, he, w1, hal, hrun⟩
 ·left
  refine ⟨(List.perm_ext_iff_of_nodup hen hmn).2 fun x => ⟨h.sub x, fun hx => ?_⟩, hrun⟩
  have := all_seen ents _ h0 x hx
  simp only [List.contains_toArray, List.contains_iff_mem, List.mem_map] at this
  obtain ⟨y, hy, hyx⟩ := this
  rw [← nodup_inj hnd (h.sub y hy) hx hyx]; exact hy
 ·right
  obtain ⟨hem, hes⟩ := mem_left he
  simp only [List.contains_toArray, ← Bool.not_eq_true, List.contains_iff_mem] at hes
  have hr1 : w1.heap[r]? = some (.mapIter (some b) clock (es.map (·.born)).toArray c0) := by rcases hal with rfl | rfl <;> exact hr
  have hb1 : w1.heap[b]? = some (.map ents clock) := by rcases hal with rfl | rfl <;> exact h.map
  have hset := MapKept.heap_set (o' := .mapIter (some b) clock ((es.map (·.born)).toArray.push e.born) clock) hr1
  have hb' : (ChangeMaps.setBlock w1 r (.mapIter (some b) clock ((es.map (·.born)).toArray.push e.born) clock)).heap[b]? = some (.map ents clock) := (hset.2 b (fun e1 => hne e1.symm)).trans hb1
  have hlen : es.length < ents.size := by
   have hx : e ∉ es := fun hx => hes (List.mem_map.2 ⟨e, hx, rfl⟩)
   have := nodup_le (l := e :: es) (m := ents.toList) (List.nodup_cons.2 ⟨hx, hen⟩) fun x hx => by
    rcases List.mem_cons.1 hx with rfl | hx
    ·exact hem
    ·exact h.sub x hx
   simp only [List.length_cons, Array.length_toList] at this
   omega
  have hpush : (es.map (·.born)).toArray.push e.born = ((es ++ [e]).map (·.born)).toArray := by simp
  have hk : KR (ChangeMaps.setBlock w1 r (.mapIter (some b) clock ((es.map (·.born)).toArray.push e.born) clock)) b r ents clock (es ++ [e]) :=
   ⟨hb', ⟨clock, Nat.le_refl _, by rw [← hpush]; exact hset.1⟩, fun x hx => by
    rcases List.mem_append.1 hx with hx | hx
    ·exact h.sub x hx
    ·rw [List.mem_singleton.1 hx]; exact hem, by
    rw [List.map_append, List.nodup_append]
    refine ⟨h.nd, by simp, fun x hx y hy => ?_⟩
    rintro rfl
    rw [List.mem_singleton.1 hy] at hx
    exact hes hx⟩
  refine ⟨e, _, hem, hrun, hk, hlen, ?_, ?_, ?_, run_entry_at _ r b clock _ ents clock e hset.1 hb' hem hnd⟩
  ·rw [hk.left, h.left, ← hpush]
   exact left_shrinks ents _ e he
  ·rcases hal with rfl | rfl <;> exact ⟨rfl, rfl, rfl, by simp [ChangeMaps.setBlock], fun i _ hi => hset.2 i (fun e1 => hi (by rw [e1]))⟩
  ·rcases hal with rfl | rfl <;> simp [ChangeMaps.setBlock]
section
variable {F : Fence} {n : Nat} {ops : Array Oper} {rest : List Oper} {o : Oper} {a : Act} {Q : Exit → Act → World → Prop}
theorem wpListIn_range_K (hg : o.guard = none) (m : Operand) (t : TypeId) (hop : o.op = Op.range t m) {k e : TypeId} (ht : P.underlying t = some (.map k e)) (hm : a.eval m = .map (some b)) (hb : w.heap[b]? = some (.map ents clock))
  (hK : ∀ w', KR w' b w.heap.size ents clock [] → w.grownBy w' none → w'.heap.size = w.heap.size + 1 → wpListIn F n P ops Q rest (a.put o.dst (.pointer (some ⟨w.heap.size, 0, none⟩))) w') :
  wpListIn F n P ops Q (o :: rest) a w := by
 refine wpListIn_plain hg fun K' hK' => ?_
 obtain ⟨w', hrun, r1, r2, r3⟩ := range_KR (P := P) ht hb
 unfold Oper.wpIn
 refine ⟨?_, ?_⟩
 ·simp [Oper.about, hop]
 ·rw [Oper.semAt_plain F _ _ (by rw [hop]; intro c hc'; cases hc')]
  simp [execOp, hop, hm, hrun, Result.andThen]
  exact hK' _ _ (hK w' r1 r2 r3)
theorem wpListIn_next_K (hg : o.guard = none) (it : Operand) (hop : o.op = Op.next it false) (hit : a.eval it = .pointer (some ⟨r, 0, none⟩)) (h : KR w b r ents clock es) (hold : ∀ x ∈ ents.toList, x.born < clock) (hnd : (ents.toList.map (·.born)).Nodup)
  (hDone : es.Perm ents.toList → wpListIn F n P ops Q rest (a.put o.dst (.tuple #[.bool false])) w)
  (hMore : ∀ (e : MapEntry) (w' : World), e ∈ ents.toList → KR w' b r ents clock (es ++ [e]) → es.length < ents.size → w'.rangeLeft b r < w.rangeLeft b r → w.grownBy w' (some r) → w'.heap.size = w.heap.size →
   (Instr.entry (.pointer (some ⟨r, 0, none⟩))).run P w' = .ok (.tuple #[e.key, e.val]) w' → wpListIn F n P ops Q rest (a.put o.dst (.tuple #[.bool true, e.key, e.val])) w') :
  wpListIn F n P ops Q (o :: rest) a w := by
 refine wpListIn_plain hg fun K' hK' => ?_
 unfold Oper.wpIn
 refine ⟨by simp [Oper.about, hop], ?_⟩
 rw [Oper.semAt_plain F _ _ (by rw [hop]; intro c hc'; cases hc')]
 rcases h.next (P := P) hold hnd o.type with ⟨h0, hrun⟩ | ⟨e, w', hem, hrun, hk, hlen, hlt, hgr, hsz, hen⟩
 ·simp [execOp, hop, hit, hrun, Result.andThen]
  exact hK' _ _ (hDone h0)
 ·simp [execOp, hop, hit, hrun, Result.andThen]
  exact hK' _ _ (hMore e w' hem hk hlen hlt hgr hsz hen)
end
end Go.Ab
end

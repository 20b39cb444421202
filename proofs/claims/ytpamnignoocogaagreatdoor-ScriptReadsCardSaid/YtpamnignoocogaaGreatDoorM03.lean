import Derived.Test.YtpamnignoocogaaGreatDoorM07
section
namespace Go.Ab
def Pk (N : List AObj) (V : AV) (w : World) (C : Addr → Prop) (bs : Nat → Prop) (v : Value) : Prop :=
 ∃ g : G, g.M = N ∧ g.w = w ∧ Sim g ∧ R g V v ∧ (∀ a, g.regM a ↔ bs a.block) ∧ ∀ a, g.X a ↔ C a ∧ ¬ bs a.block
theorem Pk.keep {N : List AObj} {V : AV} {w : World} {C : Addr → Prop} {w' : World} {C' : Addr → Prop} {bs : Nat → Prop} {v : Value} (k : HK w C w' C' bs) (h : Pk N V w C bs v) : Pk N V w' C' bs v := by
 obtain ⟨g, rfl, rfl, s, r, h1, h2⟩ := h
 have hreg : ∀ a, g.reg a ↔ C a := fun a => by
  constructor
  ·rintro (h | h)
   ·exact ((h2 a).1 h).1
   ·exact k.inC a ((h1 a).1 h)
  ·intro h;by_cases hb : bs a.block
   ·exact .inr ((h1 a).2 hb)
   ·exact .inl ((h2 a).2 ⟨h, hb⟩)
 let g' : G := ⟨g.M, g.β, g.ρ, w', fun a => C' a ∧ ¬ bs a.block⟩
 have hreg' : ∀ a, g'.reg a ↔ C' a := fun a => by
  constructor
  ·rintro (h | h)
   ·exact h.1
   ·exact k.inC' a ((h1 a).1 h)
  ·intro h;by_cases hb : bs a.block
   ·exact .inr ((h1 a).2 hb)
   ·exact .inl ⟨h, hb⟩
 have k0 : Keep0 g g' := ⟨Nat.le_refl _, fun _ _ => rfl, fun _ _ e h => ⟨e, h, Nat.le_refl _, fun _ => rfl⟩, k.size, fun a x hx hr => k.cells a x hx fun q => hr ((hreg a).2 q), fun a ha hr q => k.regs a ha (fun q' => hr ((hreg a).2 q')) ((hreg' a).1 q),
  fun b hb hr => k.blocks b hb fun off q => hr off ((hreg _).2 q), k.io⟩
 have hin : ∀ a, g'.reg a → a.block < g'.w.heap.size := fun a ha => k.inb' a ((hreg' a).1 ha);have hblk : ∀ {i : Nat} {o : AObj} {a : Addr}, g.M[i]? = some o → o.covers (g.β i) (g.ρ i) a → w'.heap[a.block]? = g.w.heap[a.block]? := fun {i o a} hi hc => k.own _ ((h1 a).1 ⟨i, o, hi, hc⟩);have hwh : ∀ {i : Nat} {o : AObj} {b : Nat}, g.M[i]? = some o → o.whole (g.β i) (g.ρ i) b → w'.heap[b]? = g.w.heap[b]? := fun {i o b} hi hw => hblk (a := ⟨b, 0, none⟩) hi hw.covers;refine ⟨g', rfl, rfl, ?_, r.keep0 k0, h1, fun a => Iff.rfl⟩;refine ⟨s.fct.keep0 k0, fun i cells hi => ?_, fun i t pos hi => (hwh hi rfl).trans (s.iter i t pos hi), fun t e ht n hn => ?_, s.disj, hin, fun a ha q => ha.2 ((h1 a).1 q), fun i es hi => ?_, fun i es vis cur t hi => ?_, fun i φ hi => ?_, fun i P cur hi => ?_, fun i z els hi => ?_⟩
 ·obtain ⟨xs, T, q1, q2, q3, q4⟩ := s.blk i cells hi;exact ⟨xs, T, (hwh hi rfl).trans q1, q2, fun j hj => (q3 j hj).keep0 k0, q4⟩
 ·obtain ⟨x, q1, q2⟩ := s.room t e ht n hn;have hb : w'.heap[(g.ρ t).b]? = g.w.heap[(g.ρ t).b]? := hblk (a := ⟨(g.ρ t).b, (g.ρ t).off + n, none⟩) ht ⟨rfl, by simp, by simpa using hn⟩;exact ⟨x, by simpa only [g', World.cell?, hb] using q1, by simpa only [g', World.frozen?, hb] using q2⟩
 ·obtain ⟨o, q1, q2⟩ := s.mapo i es hi;exact ⟨o, (hwh hi rfl).trans q1, q2.keep0 k0⟩
 ·obtain ⟨t1, t2, o, oi, q1, q2, q3⟩ := s.mapr i es vis cur t hi;exact ⟨t1, t2, o, oi, (hwh hi (.inl rfl)).trans q1, (hwh hi (.inr rfl)).trans q2, q3.keep0 k0⟩
 ·have e1 := hwh hi (.inl rfl);have e2 := hwh hi (.inr rfl);show φ _ _ (w'.heap[g.β i]?) (w'.heap[(g.ρ i).b]?);rw [e1, e2]; exact s.opq i φ hi
 ·exact s.ownKeep k0 hin hi hi rfl rfl fun b hb => hwh hi hb
 ·exact (s.arr i z els hi).keep0 k0 fun hne => hwh hi ⟨hne, rfl⟩
inductive Rows {K T : Type} (kE : K → Value) (N : T → List AObj) (V : T → AV) (w : World) (C : Addr → Prop) (hole : Option Value) : (Nat → Prop) → List (K × T) → List (Value × Value) → Prop
 | nil (bs : Nat → Prop) (h : ∀ b, ¬ bs b) : Rows kE N V w C hole bs [] []
 | hole (bs : Nat → Prop) (k : K) (x : T) (u : Value) (r : List (K × T)) (l : List (Value × Value)) (hk : hole = some (kE k)) (q : Rows kE N V w C hole bs r l) : Rows kE N V w C hole bs ((k, x) :: r) ((kE k, u) :: l)
 | cons (bs b1 b2 : Nat → Prop) (k : K) (x : T) (u : Value) (r : List (K × T)) (l : List (Value × Value)) (hk : hole ≠ some (kE k)) (p : Pk (N x) (V x) w C b1 u) (hb : ∀ b, bs b ↔ b1 b ∨ b2 b) (hd : ∀ b, b1 b → ¬ b2 b)
   (q : Rows kE N V w C hole b2 r l) : Rows kE N V w C hole bs ((k, x) :: r) ((kE k, u) :: l)
section
variable {K T : Type} {kE : K → Value} {N : T → List AObj} {V : T → AV} {w : World} {C : Addr → Prop} {hole : Option Value}
theorem Rows.keep {w' : World} {C' : Addr → Prop} {bs : Nat → Prop} {rows : List (K × T)} {l : List (Value × Value)} (h : Rows kE N V w C hole bs rows l) (k : HK w C w' C' bs) : Rows kE N V w' C' hole bs rows l := by
 induction h with
 | nil bs h => exact .nil bs h
 | hole bs c x u r l hk _ ih => exact .hole bs c x u r l hk (ih k)
 | cons bs b1 b2 c x u r l hk p hb hd _ ih =>
   have hsub : ∀ {b0 : Nat → Prop}, (∀ b, b0 b → bs b) → HK w C w' C' b0 := fun {b0} h => ⟨k.size, k.cells, k.regs, k.blocks, k.io, fun b hb => k.own b (h b hb), fun a ha => k.inC a (h _ ha), fun a ha => k.inC' a (h _ ha), k.inb'⟩;exact .cons bs b1 b2 c x u r l hk (p.keep (hsub fun b h => (hb b).2 (.inl h))) hb hd (ih (hsub fun b h => (hb b).2 (.inr h)))
theorem Rows.rehole {hole' : Option Value} {bs : Nat → Prop} {rows : List (K × T)} {l : List (Value × Value)} (h : Rows kE N V w C hole bs rows l) (h1 : ∀ e ∈ l, hole ≠ some e.1) (h2 : ∀ e ∈ l, hole' ≠ some e.1) : Rows kE N V w C hole' bs rows l := by
 induction h with
 | nil bs h => exact .nil bs h
 | hole bs k x u r l hk _ _ => exact absurd hk (h1 _ (.head _))
 | cons bs b1 b2 c x u r l hk p hb hd _ ih => exact .cons bs b1 b2 c x u r l (h2 _ (.head _)) p hb hd (ih (fun e he => h1 e (.tail _ he)) fun e he => h2 e (.tail _ he))
end
def findM {K T : Type} (eq : K → K → Bool) (k : K) : List (K × T) → Option T
 | [] => none
 | (c, x) :: r => if eq k c = true then some x else findM eq k r
def KeyEq {K : Type} (eq : K → K → Bool) (kE : K → Value) : Prop := ∀ a b, eq a b = true ↔ kE a = kE b
section
variable {K T : Type} {kE : K → Value} {N : T → List AObj} {V : T → AV} {w : World} {C : Addr → Prop} {eq : K → K → Bool}
theorem Rows.open (he : KeyEq eq kE) {k : K} {x : T} {bs : Nat → Prop} {rows : List (K × T)} {l : List (Value × Value)} (h : Rows kE N V w C none bs rows l) (hn : (l.map (·.1)).Nodup) (hf : findM eq k rows = some x) :
  ∃ b1 b2 u, (kE k, u) ∈ l ∧ Pk (N x) (V x) w C b1 u ∧ Rows kE N V w C (some (kE k)) b2 rows l ∧ (∀ b, bs b ↔ b1 b ∨ b2 b) ∧ ∀ b, b1 b → ¬ b2 b := by
 generalize hh : (none : Option Value) = hole at h
 induction h with
 | nil bs h => cases hf
 | hole bs c y u r l hk _ _ => subst hh; cases hk
 | cons bs b1 b2 c y u r l hk p hb hd q ih =>
   subst hh;unfold findM at hf;simp only [List.map_cons, List.nodup_cons] at hn;cases hc : eq k c with
   | true =>
     simp only [hc, if_true] at hf;obtain rfl : y = x := Option.some.inj hf;have hkc := (he k c).1 hc;refine ⟨b1, b2, u, by rw [hkc]; exact .head _, p, ?_, hb, hd⟩;rw [hkc];refine .hole b2 c y u r l rfl (q.rehole (fun e _ h => by cases h) fun e hm h => ?_);exact hn.1 (Option.some.inj h ▸ List.mem_map.2 ⟨e, hm, rfl⟩)
   | false =>
     simp only [hc, Bool.false_eq_true, if_false] at hf;obtain ⟨d1, d2, v, h1, h2, h3, h4, h5⟩ := ih hn.2 hf;have hne : kE k ≠ kE c := fun h => by rw [(he k c).2 h] at hc; cases hc
     refine ⟨d1, fun b => b1 b ∨ d2 b, v, .tail _ h1, h2, .cons _ b1 d2 c y u r l (fun h => hne (Option.some.inj h)) p (fun b => Iff.rfl) (fun b h q => hd b h ((h4 b).2 (.inr q))) h3, fun b => ?_, fun b h q => ?_⟩
     ·rw [hb, h4];constructor
      ·rintro (h | h | h)
       ·exact .inr (.inl h)
       ·exact .inl h
       ·exact .inr (.inr h)
      ·rintro (h | h | h)
       ·exact .inr (.inl h)
       ·exact .inl h
       ·exact .inr (.inr h)
     ·rcases q with q | q
      ·exact hd b q ((h4 b).2 (.inl h))
      ·exact h5 b h q
theorem Rows.close (he : KeyEq eq kE) {k : K} {x : T} {b1 b2 bs : Nat → Prop} {rows : List (K × T)} {l : List (Value × Value)} {u : Value} (h : Rows kE N V w C (some (kE k)) b2 rows l) (hn : (l.map (·.1)).Nodup) (hm : (kE k, u) ∈ l)
  (p : Pk (N x) (V x) w C b1 u) (hb : ∀ b, bs b ↔ b1 b ∨ b2 b) (hd : ∀ b, b1 b → ¬ b2 b) : Rows kE N V w C none bs (setM eq k x rows) l := by
 generalize hh : some (kE k) = hole at h
 induction h generalizing bs with
 | nil => cases hm
 | hole b2 c y v r l hk q ih =>
   subst hh;have hkc : kE k = kE c := Option.some.inj hk;simp only [List.map_cons, List.nodup_cons] at hn
   have hu : u = v := by
    rcases List.mem_cons.1 hm with hm | hm
    ·exact (Prod.mk.inj hm).2
    ·exact absurd (List.mem_map.2 ⟨_, hm, hkc⟩) hn.1
   subst hu;have hq : Rows kE N V w C none b2 r l := q.rehole (fun e hm h => hn.1 (by rw [← hkc, Option.some.inj h]; exact List.mem_map.2 ⟨e, hm, rfl⟩)) fun _ _ h => by cases h
   simp only [setM, (he k c).2 hkc, if_true];rw [← hkc];exact .cons bs b1 b2 k x u r l (fun h => by cases h) p hb hd hq
 | cons b2 d1 d2 c y v r l hk p' hb' hd' q ih =>
   subst hh;have hne : kE k ≠ kE c := fun h => hk (by rw [h]);simp only [List.map_cons, List.nodup_cons] at hn
   have hm' : (kE k, u) ∈ l := by
    rcases List.mem_cons.1 hm with hm | hm
    ·exact absurd (Prod.mk.inj hm).1 hne
    ·exact hm
   have hc : eq k c = false := by
    cases hc : eq k c with
    | true => exact absurd ((he k c).1 hc) hne
    | false => rfl
   have ih' := ih (bs := fun b => b1 b ∨ d2 b) hn.2 hm' (fun b => Iff.rfl) (fun b h q => hd b h ((hb' b).2 (.inr q)));simp only [setM, hc, Bool.false_eq_true, if_false];refine .cons bs d1 _ c y v _ l (fun h => by cases h) p' (fun b => ?_) (fun b h q => ?_) ih'
   ·rw [hb, hb'];constructor
    ·rintro (h | h | h)
     ·exact .inr (.inl h)
     ·exact .inl h
     ·exact .inr (.inr h)
    ·rintro (h | h | h)
     ·exact .inr (.inl h)
     ·exact .inl h
     ·exact .inr (.inr h)
   ·rcases q with q | q
    ·exact hd b q ((hb' b).2 (.inl h))
    ·exact hd' b h q
theorem Rows.push {k : K} {x : T} {b1 b2 bs : Nat → Prop} {rows : List (K × T)} {l : List (Value × Value)} {u : Value} (h : Rows kE N V w C none b2 rows l) (p : Pk (N x) (V x) w C b1 u) (hb : ∀ b, bs b ↔ b1 b ∨ b2 b) (hd : ∀ b, b1 b → ¬ b2 b) :
  Rows kE N V w C none bs (rows ++ [(k, x)]) (l ++ [(kE k, u)]) := by
 generalize hh : (none : Option Value) = hole at h
 induction h generalizing bs with
 | nil b2 h =>
   subst hh;exact .cons bs b1 b2 k x u [] [] (fun h => by cases h) p hb hd (.nil b2 h)
 | hole _ _ _ _ _ _ hk _ _ => subst hh; cases hk
 | cons b2 d1 d2 c y v r l hk p' hb' hd' q ih =>
   subst hh;refine .cons bs d1 (fun b => b1 b ∨ d2 b) c y v _ _ (fun h => by cases h) p' (fun b => ?_) (fun b h q => ?_) (ih (fun b => Iff.rfl) (fun b h q => hd b h ((hb' b).2 (.inr q))))
   ·rw [hb, hb'];constructor
    ·rintro (h | h | h)
     ·exact .inr (.inl h)
     ·exact .inl h
     ·exact .inr (.inr h)
    ·rintro (h | h | h)
     ·exact .inr (.inl h)
     ·exact .inl h
     ·exact .inr (.inr h)
   ·rcases q with q | q
    ·exact hd b q ((hb' b).2 (.inl h))
    ·exact hd' b h q
end
def AObj.isRoom : AObj → Bool
 | .room _ => true
 | _ => false
end Go.Ab
end
section
namespace Go.Ab
section
variable {n B : Nat} {A : Env} {M M' : List AObj}
variable {K T : Type} {key : Value → Prop} {kE : K → Value} {fl : T → AV} {N : T → List AObj} {V : T → AV} {eq : K → K → Bool}
end
section
variable {n B : Nat} {A : Env} {M M' : List AObj}
variable {T : Type} {key : Value → Prop} {kk : IntKind} {fl : T → AV} {N : T → List AObj} {V : T → AV}
end
attribute [simp] AObj.isRoom
def frzO (i : Nat) (els : List (List AV)) : AObj → AObj
 | .blk cs => .blk (cs.map (lendA i els))
 | o => o
def frzE (i : Nat) (els : List (List AV)) (A : Env) : Env := A.map fun e => ⟨e.t, e.tag, lendB i els e.av⟩
def frzOk (i s : Nat) (els : List (List AV)) : List AObj → Prop
 | [] => True
 | .blk cs :: r => lendO i s els cs ∧ frzOk i s els r
 | _ :: r => frzOk i s els r
theorem lendO_get {i s : Nat} {els : List (List AV)} : ∀ {cs : List AV}, lendO i s els cs → ∀ j (hj : j < cs.length), ∀ k n z, cs[j] = .asl k n z → k = i → z = s ∧ n = lenL els
 | [], _, j, hj, _, _, _, _, _ => by simp at hj
 | c :: cs, ho, j, hj, k, n, z, he, hk => by
   cases j with
   | zero =>
     simp only [List.getElem_cons_zero] at he;subst he;exact ho.1 hk
   | succ j =>
     refine lendO_get (cs := cs) ?_ j (by simpa using hj) k n z (by simpa using he) hk;cases c <;> first | exact ho.2 | exact ho
theorem frzOk_get {i s : Nat} {els : List (List AV)} : ∀ {M : List AObj}, frzOk i s els M → ∀ cs, AObj.blk cs ∈ M → lendO i s els cs
 | [], _, _, h => by cases h
 | o :: r, ho, cs, h => by
   rcases List.mem_cons.1 h with rfl | h
   ·exact ho.1
   ·refine frzOk_get (M := r) ?_ cs h;cases o <;> first | exact ho.2 | exact ho
theorem lendP_mem {i s : Nat} {els : List (List AV)} : ∀ {l : List AV}, lendP i s els l → ∀ a ∈ l, (∀ cs, a = .agg cs → lendO i s els cs) ∧ ∀ k n z, a = .asl k n z → k = i → z = s ∧ n = lenL els
 | [], _, a, h => by cases h
 | c :: r, ho, a, h => by
   rcases List.mem_cons.1 h with rfl | h
   ·refine ⟨fun cs e => by subst e; exact ho.1, fun k n z e hk => by subst e; exact ho.1 hk⟩
   ·refine lendP_mem (l := r) ?_ a h;cases c <;> first | exact ho.2 | exact ho
theorem See.freeze {n B : Nat} {A : Env} {M : List AObj} (i : Nat) {s : Nat} {els : List (List AV)} {σ' : St} (hM : M[i]? = some (.arr s els)) (hA : lendP i s els (A.map Ent.av)) (hO : frzOk i s els M)
  (hs : (⟨frzE i els A, (M.set i .dead).map (frzO i els)⟩ : St) = σ') : See n B ⟨A, M⟩ σ' := by
 subst hs;rintro g0 g a ⟨b1, b2, b3, b4, sm, b6, b7, b8⟩;simp only at b4;subst b4;have hwm : WMem g.M (g.M.set i .dead) := WMem.toSet hM (.dead _)
 let g1 : G := ⟨g.M.set i .dead, g.β, g.ρ, g.w, g.X⟩
 have s1 : Sim g1 := sm.wmem hwm
 have hr1 : ∀ a, g1.reg a → g.reg a := fun a h => by
  rcases h with h | ⟨j, o', hj, hc⟩
  ·exact .inl h
  ·obtain ⟨o, ho, hw⟩ := hwm.get hj;exact Lk ho (hw.covers hc)
 have hno : els ≠ [] → ∀ a, g1.reg a → a.block ≠ g.β i := fun hne a h hb => by
  have hc : (AObj.arr s els).covers (g.β i) (g.ρ i) a := ⟨hne, hb⟩;rcases h with h | ⟨j, o', hj, hcj⟩
  ·exact sm.xdis a h ⟨i, _, hM, hc⟩
  ·rcases put_get hj with ⟨q1, q2⟩ | ⟨_, q2⟩
   ·exact q1 (sm.disj j i o' _ a q2 hM hcj hc)
   ·subst q2; exact hcj.elim
 have one : ∀ {a : AV} {v : Value}, R g a v → (∀ j n z, a = .asl j n z → j = i → z = s ∧ n = lenL els) → R g1 (lendA i els a) v := fun {a v} q ho => by
  cases a with
  | asl j n z =>
    by_cases hj : j = i
    ·have e : lendA i els (.asl j n z) = .sl els .no := by simp [lendA, hj]
     rw [e];obtain ⟨hz, hn⟩ := ho j n z rfl hj;cases q with
     | asl _ _ _ m cap ad _ hm hc hz' ha =>
     subst hj;have hlen : els.length = m := by unfold lenL at hn; omega
     subst hlen;by_cases hne : els = []
     ·subst hne;rcases hz' with rfl | ⟨b, off, rfl⟩
      ·exact .nil _ trivial
      ·exact .sl [] .no b off 0 cap (fun _ _ => undef) (by simp) (by simp) (by simp) (by simp) (by simp) trivial hc
     ·have := ha (List.length_pos_iff.2 hne);subst this;obtain ⟨xs, T, h1, h2, h3⟩ := sm.arr j s els hM hne
      have key : ∀ p q (hp : p < els.length) (hq : q < s), p * s + q < xs.size ∧ R g (els[p][q]'(by rw [h2 _ (List.getElem_mem hp)]; exact hq)) (xs.getD (p * s + q) undef) ∧ (xs.getD (p * s + q) undef).oneCell' = true := fun p q hp hq =>
       h3 p q els[p] _ (List.getElem?_eq_getElem hp) (List.getElem?_eq_getElem _)
      refine .sl els .no _ 0 s cap (fun p q => xs.getD (p * s + q) undef) (fun p hp => h2 _ (List.getElem_mem hp)) (fun p q hp hq => ?_) (fun p q hp hq hr => hno hne _ hr rfl) (fun p q hp hq => ?_) (fun p q hp hq => (key p q hp hq).2.2) trivial hc
      ·have := (key p q hp hq).1;simp [g1, World.cell?, h1, Array.getD, this]
      ·have hq' : q < s := by rw [← h2 _ (List.getElem_mem hp)]; exact hq
       exact (key p q hp hq').2.1.wmem hwm
    ·have e : lendA i els (.asl j n z) = .asl j n z := by simp [lendA, hj]
     rw [e]; exact q.wmem hwm
  | _ => exact q.wmem hwm
 have two : ∀ {a : AV} {v : Value}, R g a v → (∀ cs, a = .agg cs → lendO i s els cs) → (∀ j n z, a = .asl j n z → j = i → z = s ∧ n = lenL els) → R g1 (lendB i els a) v := fun {a v} q ho1 ho2 => by
  cases a with
  | agg cs =>
    cases q with
    | agg _ xs hs hx h4 =>
      refine .agg _ xs (by simpa using hs) (fun j hj => ?_) (fun j hj => h4 j (by simpa using hj));have hj' : j < cs.length := by simpa using hj
      simp only [List.getElem_map];exact one (hx j hj') fun k n z he hk => lendO_get (ho1 cs rfl) j hj' k n z he hk
  | asl j n z => exact one q ho2
  | _ => exact one q fun j' n' z' he => by cases he
 let M2 := (g.M.set i .dead).map (frzO i els)
 let g2 : G := ⟨M2, g.β, g.ρ, g.w, g.X⟩
 have hget : ∀ {j : Nat} {o : AObj}, M2[j]? = some o → ∃ o', (g.M.set i .dead)[j]? = some o' ∧ o = frzO i els o' := fun {j o} h => by
  rw [List.getElem?_map] at h;obtain ⟨o', h1, h2⟩ := Option.map_eq_some_iff.1 h;exact ⟨o', h1, h2.symm⟩
 have hcov : ∀ {o : AObj} {b : Nat} {r : Room} {a : Addr}, (frzO i els o).covers b r a ↔ o.covers b r a := fun {o b r a} => by cases o <;> exact Iff.rfl
 have hreg2 : ∀ a, g2.reg a ↔ g1.reg a := fun a => by
  constructor
  ·rintro (h | ⟨j, o, hj, hc⟩)
   ·exact .inl h
   ·obtain ⟨o', h1, rfl⟩ := hget hj;exact .inr ⟨j, o', h1, hcov.1 hc⟩
  ·rintro (h | ⟨j, o, hj, hc⟩)
   ·exact .inl h
   ·refine .inr ⟨j, frzO i els o, ?_, hcov.2 hc⟩;show ((g.M.set i .dead).map (frzO i els))[j]? = _;have hj' : (g.M.set i .dead)[j]? = some o := hj;rw [List.getElem?_map, hj']; rfl
 have k12 : Keep0 g1 g2 := by
  refine ⟨by simp [g1, g2, M2], fun _ _ => rfl, fun t ht e he => ?_, Nat.le_refl _, fun _ _ h _ => h, fun a _ h q => h ((hreg2 a).1 q), fun _ _ _ => rfl, ⟨rfl, rfl⟩⟩;obtain ⟨o', h1, h2⟩ := hget he;cases o' <;> simp only [frzO, reduceCtorEq, AObj.room.injEq] at h2;subst h2;exact ⟨_, h1, Nat.le_refl _, fun _ => rfl⟩
 have hin2 : ∀ a, g2.reg a → a.block < g2.w.heap.size := fun a h => s1.inb a ((hreg2 a).1 h)
 have s2 : Sim g2 := by
  refine ⟨Facts.less (g := g1) rfl (fun a h => (hreg2 a).1 h) s1.fct, fun j cells hj => ?_, fun j t pos hj => ?_, fun t e ht => ?_, fun j j' oj oj' a hj hj' hcj hcj' => ?_, hin2, fun a ha => ?_, fun j es hj => ?_, fun j es vis cur t hj => ?_, fun j φ hj => ?_, fun j P cur hj => ?_, fun j z es hj => ?_⟩
  ·obtain ⟨o', h1, h2⟩ := hget hj;cases o' <;> simp only [frzO, reduceCtorEq, AObj.blk.injEq] at h2;rename_i cs;subst h2;obtain ⟨q1, q2⟩ | ⟨_, q2⟩ := put_get h1
   ·obtain ⟨xs, T, r1, r2, r3, r4⟩ := sm.blk j cs q2;refine ⟨xs, T, r1, by simpa using r2, fun k hk => ?_, fun k hk => r4 k (by simpa using hk)⟩;have hk' : k < cs.length := by simpa using hk
    simp only [List.getElem_map];exact (one (r3 k hk') fun k' n z he hkk => lendO_get (frzOk_get hO cs (List.mem_of_getElem? q2)) k hk' k' n z he hkk).keep0 k12
   ·cases q2
  ·obtain ⟨o', h1, h2⟩ := hget hj;cases o' <;> simp only [frzO, reduceCtorEq, AObj.iter.injEq] at h2;obtain ⟨rfl, rfl⟩ := h2;exact s1.iter j _ _ h1
  ·obtain ⟨o', h1, h2⟩ := hget ht;cases o' <;> simp only [frzO, reduceCtorEq, AObj.room.injEq] at h2;subst h2;exact s1.room t _ h1
  ·obtain ⟨o1, h1, rfl⟩ := hget hj;obtain ⟨o2, h2, rfl⟩ := hget hj';exact s1.disj j j' o1 o2 a h1 h2 (hcov.1 hcj) (hcov.1 hcj')
  ·rintro ⟨j, o, hj, hc⟩;obtain ⟨o1, h1, rfl⟩ := hget hj;exact s1.xdis a ha ⟨j, o1, h1, hcov.1 hc⟩
  ·obtain ⟨o', h1, h2⟩ := hget hj;cases o' <;> simp only [frzO, reduceCtorEq, AObj.mapo.injEq] at h2;subst h2;obtain ⟨o, q1, q2⟩ := s1.mapo j _ h1;exact ⟨o, q1, q2.keep0 k12⟩
  ·obtain ⟨o', h1, h2⟩ := hget hj;cases o' <;> simp only [frzO, reduceCtorEq, AObj.mapr.injEq] at h2;obtain ⟨rfl, rfl, rfl, rfl⟩ := h2;obtain ⟨t1, t2, o, oi, q1, q2, q3⟩ := s1.mapr j _ _ _ _ h1;exact ⟨Nat.lt_of_lt_of_le t1 k12.len, t2, o, oi, q1, q2, q3.keep0 k12⟩
  ·obtain ⟨o', h1, h2⟩ := hget hj;cases o' <;> simp only [frzO, reduceCtorEq, AObj.opq.injEq] at h2;subst h2;exact s1.opq j _ h1
  ·obtain ⟨o', h1, h2⟩ := hget hj;cases o' <;> simp only [frzO, reduceCtorEq, AObj.own.injEq] at h2;obtain ⟨rfl, rfl⟩ := h2;exact s1.ownKeep k12 hin2 h1 hj rfl rfl fun _ _ => rfl
  ·obtain ⟨o', h1, h2⟩ := hget hj;cases o' <;> simp only [frzO, reduceCtorEq, AObj.arr.injEq] at h2;obtain ⟨rfl, rfl⟩ := h2;exact (s1.arr j _ _ h1).keep0 k12 fun _ => rfl
 have kg : Keep g g2 := by
  have hr2 : ∀ a, g2.reg a → g.reg a := fun a h => hr1 a ((hreg2 a).1 h);refine ⟨⟨by simp [g2, M2], fun _ _ => rfl, fun t ht e he => ?_, Nat.le_refl _, fun _ _ h _ => h, fun a _ h q => h (hr2 a q), fun _ _ _ => rfl, ⟨rfl, rfl⟩⟩, fun _ h => h, fun _ _ _ => ⟨rfl, rfl⟩, fun _ _ _ => rfl⟩;obtain ⟨o', h1, h2⟩ := hget he;cases o' <;> simp only [frzO, reduceCtorEq, AObj.room.injEq] at h2;subst h2;rcases put_get h1 with ⟨_, q2⟩ | ⟨_, q2⟩
  ·exact ⟨_, q2, Nat.le_refl _, fun _ => rfl⟩
  ·cases q2
 refine ⟨g2, rfl, b1, b2, b3.trans kg, rfl, s2, fun t tag av he => ?_, b7, b8⟩
 have hent : ∀ {A : Env}, ent (frzE i els A) t = (ent A t).map fun p => (p.1, lendB i els p.2) := fun {A} => by
  induction A with
  | nil => rfl
  | cons e r ih =>
    show (if e.t = t then some (e.tag, lendB i els e.av) else ent (frzE i els r) t) = (if e.t = t then some (e.tag, e.av) else ent r t).map fun p => (p.1, lendB i els p.2);by_cases h : e.t = t
    ·rw [if_pos h, if_pos h]; rfl
    ·rw [if_neg h, if_neg h]; exact ih
 rw [hent] at he;obtain ⟨⟨tag', av'⟩, he1, he2⟩ := Option.map_eq_some_iff.1 he;simp only [Prod.mk.injEq] at he2;obtain ⟨rfl, rfl⟩ := he2;have hmem : av' ∈ A.map Ent.av := List.mem_map.2 ⟨_, ent_mem he1, rfl⟩;obtain ⟨m1, m2⟩ := lendP_mem hA av' hmem;have q := b6 t tag' av' he1;have hRR : R g av' (a.tmps.getD t undef) → R g2 (lendB i els av') (a.tmps.getD t undef) := fun q => (two q m1 m2).keep0 k12;rw [tagRel_eq] at q ⊢;cases tag' with
 | none => exact hRR q
 | some τ => exact ⟨fun h => hRR (q.1 h), q.2⟩
attribute [simp] frzO frzE frzOk
end Go.Ab
end

import Derived.Test.YtoiieebljbhpbaaGreatDoorAb9
import Derived.Maps.OwnSet
import Derived.Test.YtoiieebljbhpbaaGreatDoorM07
section
namespace Go.Ab
def Pk (N : List qau) (V : AV) (w : World) (C : Addr → Prop) (bs : Nat → Prop) (v : Value) : Prop :=
 ∃ g : G, g.M = N ∧ g.w = w ∧ Sim g ∧ R g V v ∧ (∀ a, g.regM a ↔ bs a.block) ∧ ∀ a, g.X a ↔ C a ∧ ¬ bs a.block
theorem Pk.keep {N : List qau} {V : AV} {w : World} {C : Addr → Prop} {w' : World} {C' : Addr → Prop} {bs : Nat → Prop} {v : Value} (k : HK w C w' C' bs) (h : Pk N V w C bs v) : Pk N V w' C' bs v := by
 obtain ⟨g, rfl, rfl, s, r, h1, h2⟩ := h
 have hreg : ∀ a, g.reg a ↔ C a := fun a => by
  constructor
  ·rintro (h | h)
   ·exact ((h2 a).1 h).1
   ·exact k.inC a ((h1 a).1 h)
  ·intro h;by_cases hb : bs a.block
   ·exact .inr ((h1 a).2 hb)
   ·exact .inl ((h2 a).2 ⟨h, hb⟩)
 let g' : G := ⟨g.M, g.β, g.ρ, w', fun a => C' a ∧ ¬ bs a.block⟩
 have hreg' : ∀ a, g'.reg a ↔ C' a := fun a => by
  constructor
  ·rintro (h | h)
   ·exact h.1
   ·exact k.inC' a ((h1 a).1 h)
  ·intro h;by_cases hb : bs a.block
   ·exact .inr ((h1 a).2 hb)
   ·exact .inl ⟨h, hb⟩
 have k0 : Keep0 g g' := ⟨Nat.le_refl _, fun _ _ => rfl, fun _ _ e h => ⟨e, h, Nat.le_refl _, fun _ => rfl⟩, k.size, fun a x hx hr => k.cells a x hx fun q => hr ((hreg a).2 q), fun a ha hr q => k.regs a ha (fun q' => hr ((hreg a).2 q')) ((hreg' a).1 q),
  fun b hb hr => k.blocks b hb fun off q => hr off ((hreg _).2 q), k.io⟩
 have hin : ∀ a, g'.reg a → a.block < g'.w.heap.size := fun a ha => k.inb' a ((hreg' a).1 ha);have hblk : ∀ {i : Nat} {o : qau} {a : Addr}, g.M[i]? = some o → o.covers (g.β i) (g.ρ i) a → w'.heap[a.block]? = g.w.heap[a.block]? := fun {i o a} hi hc => k.own _ ((h1 a).1 ⟨i, o, hi, hc⟩);have hwh : ∀ {i : Nat} {o : qau} {b : Nat}, g.M[i]? = some o → o.whole (g.β i) (g.ρ i) b → w'.heap[b]? = g.w.heap[b]? := fun {i o b} hi hw => hblk (a := ⟨b, 0, none⟩) hi hw.covers;refine ⟨g', rfl, rfl, ?_, r.keep0 k0, h1, fun a => Iff.rfl⟩;refine ⟨s.fct.keep0 k0, fun i cells hi => ?_, fun i t pos hi => (hwh hi rfl).trans (s.iter i t pos hi), fun t e ht n hn => ?_, s.disj, hin, fun a ha q => ha.2 ((h1 a).1 q), fun i es hi => ?_, fun i es vis cur t hi => ?_, fun i φ hi => ?_, fun i P cur hi => ?_, fun i z els hi => ?_⟩
 ·obtain ⟨xs, T, q1, q2, q3, q4⟩ := s.blk i cells hi;exact ⟨xs, T, (hwh hi rfl).trans q1, q2, fun j hj => (q3 j hj).keep0 k0, q4⟩
 ·obtain ⟨x, q1, q2⟩ := s.room t e ht n hn;have hb : w'.heap[(g.ρ t).b]? = g.w.heap[(g.ρ t).b]? := hblk (a := ⟨(g.ρ t).b, (g.ρ t).off + n, none⟩) ht ⟨rfl, by simp, by simpa using hn⟩;exact ⟨x, by simpa only [g', World.cell?, hb] using q1, by simpa only [g', World.frozen?, hb] using q2⟩
 ·obtain ⟨o, q1, q2⟩ := s.mapo i es hi;exact ⟨o, (hwh hi rfl).trans q1, q2.keep0 k0⟩
 ·obtain ⟨t1, t2, o, oi, q1, q2, q3⟩ := s.mapr i es vis cur t hi;exact ⟨t1, t2, o, oi, (hwh hi (.inl rfl)).trans q1, (hwh hi (.inr rfl)).trans q2, q3.keep0 k0⟩
 ·have e1 := hwh hi (.inl rfl);have e2 := hwh hi (.inr rfl);show φ _ _ (w'.heap[g.β i]?) (w'.heap[(g.ρ i).b]?);rw [e1, e2]; exact s.opq i φ hi
 ·exact s.ownKeep k0 hin hi hi rfl rfl fun b hb => hwh hi hb
 ·exact (s.arr i z els hi).keep0 k0 fun hne => hwh hi ⟨hne, rfl⟩
inductive Rows {K T : Type} (kE : K → Value) (N : T → List qau) (V : T → AV) (w : World) (C : Addr → Prop) (hole : Option Value) : (Nat → Prop) → List (K × T) → List (Value × Value) → Prop
 | nil (bs : Nat → Prop) (h : ∀ b, ¬ bs b) : Rows kE N V w C hole bs [] []
 | hole (bs : Nat → Prop) (k : K) (x : T) (u : Value) (r : List (K × T)) (l : List (Value × Value)) (hk : hole = some (kE k)) (q : Rows kE N V w C hole bs r l) : Rows kE N V w C hole bs ((k, x) :: r) ((kE k, u) :: l)
 | cons (bs b1 b2 : Nat → Prop) (k : K) (x : T) (u : Value) (r : List (K × T)) (l : List (Value × Value)) (hk : hole ≠ some (kE k)) (p : Pk (N x) (V x) w C b1 u) (hb : ∀ b, bs b ↔ b1 b ∨ b2 b) (hd : ∀ b, b1 b → ¬ b2 b)
   (q : Rows kE N V w C hole b2 r l) : Rows kE N V w C hole bs ((k, x) :: r) ((kE k, u) :: l)
section
variable {K T : Type} {kE : K → Value} {N : T → List qau} {V : T → AV} {w : World} {C : Addr → Prop} {hole : Option Value}
theorem Rows.keep {w' : World} {C' : Addr → Prop} {bs : Nat → Prop} {rows : List (K × T)} {l : List (Value × Value)} (h : Rows kE N V w C hole bs rows l) (k : HK w C w' C' bs) : Rows kE N V w' C' hole bs rows l := by
 induction h with
 | nil bs h => exact .nil bs h
 | hole bs c x u r l hk _ ih => exact .hole bs c x u r l hk (ih k)
 | cons bs b1 b2 c x u r l hk p hb hd _ ih =>
   have hsub : ∀ {b0 : Nat → Prop}, (∀ b, b0 b → bs b) → HK w C w' C' b0 := fun {b0} h => ⟨k.size, k.cells, k.regs, k.blocks, k.io, fun b hb => k.own b (h b hb), fun a ha => k.inC a (h _ ha), fun a ha => k.inC' a (h _ ha), k.inb'⟩;exact .cons bs b1 b2 c x u r l hk (p.keep (hsub fun b h => (hb b).2 (.inl h))) hb hd (ih (hsub fun b h => (hb b).2 (.inr h)))
theorem Rows.rehole {hole' : Option Value} {bs : Nat → Prop} {rows : List (K × T)} {l : List (Value × Value)} (h : Rows kE N V w C hole bs rows l) (h1 : ∀ e ∈ l, hole ≠ some e.1) (h2 : ∀ e ∈ l, hole' ≠ some e.1) : Rows kE N V w C hole' bs rows l := by
 induction h with
 | nil bs h => exact .nil bs h
 | hole bs k x u r l hk _ _ => exact absurd hk (h1 _ (.head _))
 | cons bs b1 b2 c x u r l hk p hb hd _ ih => exact .cons bs b1 b2 c x u r l (h2 _ (.head _)) p hb hd (ih (fun e he => h1 e (.tail _ he)) fun e he => h2 e (.tail _ he))
end
def findM {K T : Type} (eq : K → K → Bool) (k : K) : List (K × T) → Option T
 | [] => none
 | (c, x) :: r => if eq k c = true then some x else findM eq k r
def KeyEq {K : Type} (eq : K → K → Bool) (kE : K → Value) : Prop := ∀ a b, eq a b = true ↔ kE a = kE b
section
variable {K T : Type} {kE : K → Value} {N : T → List qau} {V : T → AV} {w : World} {C : Addr → Prop} {eq : K → K → Bool}
theorem Rows.open (he : KeyEq eq kE) {k : K} {x : T} {bs : Nat → Prop} {rows : List (K × T)} {l : List (Value × Value)} (h : Rows kE N V w C none bs rows l) (hn : (l.map (·.1)).Nodup) (hf : findM eq k rows = some x) :
  ∃ b1 b2 u, (kE k, u) ∈ l ∧ Pk (N x) (V x) w C b1 u ∧ Rows kE N V w C (some (kE k)) b2 rows l ∧ (∀ b, bs b ↔ b1 b ∨ b2 b) ∧ ∀ b, b1 b → ¬ b2 b := by
 generalize hh : (none : Option Value) = hole at h
 induction h with
 | nil bs h => cases hf
 | hole bs c y u r l hk _ _ => subst hh; cases hk
 | cons bs b1 b2 c y u r l hk p hb hd q ih =>
   subst hh;unfold findM at hf;simp only [List.map_cons, List.nodup_cons] at hn;cases hc : eq k c with
   | true =>
     simp only [hc, if_true] at hf;obtain rfl : y = x := Option.some.inj hf;have hkc := (he k c).1 hc;refine ⟨b1, b2, u, by rw [hkc]; exact .head _, p, ?_, hb, hd⟩;rw [hkc];refine .hole b2 c y u r l rfl (q.rehole (fun e _ h => by cases h) fun e hm h => ?_);exact hn.1 (Option.some.inj h ▸ List.mem_map.2 ⟨e, hm, rfl⟩)
   | false =>
     simp only [hc, Bool.false_eq_true, if_false] at hf;obtain ⟨d1, d2, v, h1, h2, h3, h4, h5⟩ := ih hn.2 hf;have hne : kE k ≠ kE c := fun h => by rw [(he k c).2 h] at hc; cases hc
     refine ⟨d1, fun b => b1 b ∨ d2 b, v, .tail _ h1, h2, .cons _ b1 d2 c y u r l (fun h => hne (Option.some.inj h)) p (fun b => Iff.rfl) (fun b h q => hd b h ((h4 b).2 (.inr q))) h3, fun b => ?_, fun b h q => ?_⟩
     ·rw [hb, h4];constructor
      ·rintro (h | h | h)
       ·exact .inr (.inl h)
       ·exact .inl h
       ·exact .inr (.inr h)
      ·rintro (h | h | h)
       ·exact .inr (.inl h)
       ·exact .inl h
       ·exact .inr (.inr h)
     ·rcases q with q | q
      ·exact hd b q ((h4 b).2 (.inl h))
      ·exact h5 b h q
theorem Rows.close (he : KeyEq eq kE) {k : K} {x : T} {b1 b2 bs : Nat → Prop} {rows : List (K × T)} {l : List (Value × Value)} {u : Value} (h : Rows kE N V w C (some (kE k)) b2 rows l) (hn : (l.map (·.1)).Nodup) (hm : (kE k, u) ∈ l)
  (p : Pk (N x) (V x) w C b1 u) (hb : ∀ b, bs b ↔ b1 b ∨ b2 b) (hd : ∀ b, b1 b → ¬ b2 b) : Rows kE N V w C none bs (setM eq k x rows) l := by
 generalize hh : some (kE k) = hole at h
 induction h generalizing bs with
 | nil => cases hm
 | hole b2 c y v r l hk q ih =>
   subst hh;have hkc : kE k = kE c := Option.some.inj hk;simp only [List.map_cons, List.nodup_cons] at hn
   have hu : u = v := by
    rcases List.mem_cons.1 hm with hm | hm
    ·exact (Prod.mk.inj hm).2
    ·exact absurd (List.mem_map.2 ⟨_, hm, hkc⟩) hn.1
   subst hu;have hq : Rows kE N V w C none b2 r l := q.rehole (fun e hm h => hn.1 (by rw [← hkc, Option.some.inj h]; exact List.mem_map.2 ⟨e, hm, rfl⟩)) fun _ _ h => by cases h
   simp only [setM, (he k c).2 hkc, if_true];rw [← hkc];exact .cons bs b1 b2 k x u r l (fun h => by cases h) p hb hd hq
 | cons b2 d1 d2 c y v r l hk p' hb' hd' q ih =>
   subst hh;have hne : kE k ≠ kE c := fun h => hk (by rw [h]);simp only [List.map_cons, List.nodup_cons] at hn
   have hm' : (kE k, u) ∈ l := by
    rcases List.mem_cons.1 hm with hm | hm
    ·exact absurd (Prod.mk.inj hm).1 hne
    ·exact hm
   have hc : eq k c = false := by
    cases hc : eq k c with
    | true => exact absurd ((he k c).1 hc) hne
    | false => rfl
   have ih' := ih (bs := fun b => b1 b ∨ d2 b) hn.2 hm' (fun b => Iff.rfl) (fun b h q => hd b h ((hb' b).2 (.inr q)));simp only [setM, hc, Bool.false_eq_true, if_false];refine .cons bs d1 _ c y v _ l (fun h => by cases h) p' (fun b => ?_) (fun b h q => ?_) ih'
   ·rw [hb, hb'];constructor
    ·rintro (h | h | h)
     ·exact .inr (.inl h)
     ·exact .inl h
     ·exact .inr (.inr h)
    ·rintro (h | h | h)
     ·exact .inr (.inl h)
     ·exact .inl h
     ·exact .inr (.inr h)
   ·rcases q with q | q
    ·exact hd b q ((hb' b).2 (.inl h))
    ·exact hd' b h q
theorem Rows.push {k : K} {x : T} {b1 b2 bs : Nat → Prop} {rows : List (K × T)} {l : List (Value × Value)} {u : Value} (h : Rows kE N V w C none b2 rows l) (p : Pk (N x) (V x) w C b1 u) (hb : ∀ b, bs b ↔ b1 b ∨ b2 b) (hd : ∀ b, b1 b → ¬ b2 b) :
  Rows kE N V w C none bs (rows ++ [(k, x)]) (l ++ [(kE k, u)]) := by
 generalize hh : (none : Option Value) = hole at h
 induction h generalizing bs with
 | nil b2 h =>
   subst hh;exact .cons bs b1 b2 k x u [] [] (fun h => by cases h) p hb hd (.nil b2 h)
 | hole _ _ _ _ _ _ hk _ _ => subst hh; cases hk
 | cons b2 d1 d2 c y v r l hk p' hb' hd' q ih =>
   subst hh;refine .cons bs d1 (fun b => b1 b ∨ d2 b) c y v _ _ (fun h => by cases h) p' (fun b => ?_) (fun b h q => ?_) (ih (fun b => Iff.rfl) (fun b h q => hd b h ((hb' b).2 (.inr q))))
   ·rw [hb, hb'];constructor
    ·rintro (h | h | h)
     ·exact .inr (.inl h)
     ·exact .inl h
     ·exact .inr (.inr h)
    ·rintro (h | h | h)
     ·exact .inr (.inl h)
     ·exact .inl h
     ·exact .inr (.inr h)
   ·rcases q with q | q
    ·exact hd b q ((hb' b).2 (.inl h))
    ·exact hd' b h q
end
def qau.isRoom : qau → Bool
 | .room _ => true
 | _ => false
end Go.Ab
end
section
namespace Go.Ab
theorem keep_below {g : G} {w' : World} (h : RowKit.Below g.w.heap.size g.w w') : Keep g { g with w := w' } where
 len := Nat.le_refl _
 ptr _ _ := rfl
 rooms _ _ e h := ⟨e, h, Nat.le_refl _, fun _ => rfl⟩
 size := h.size
 cells a x hx _ := by rw [← hx]; simp only [World.cell?]; rw [h.block _ (cell_lt hx)]
 regs _ _ h := h
 blocks b hb _ := h.block b hb
 io := ⟨h.os, h.output⟩
 xs _ h := h
 xcell a ha _ := by simp only [World.cell?, World.frozen?]; rw [h.block _ ha]; exact ⟨rfl, rfl⟩
 xblk b hb _ := h.block b hb
theorem sim_below {g : G} {w' : World} (h : RowKit.Below g.w.heap.size g.w w') (s : Sim g) : Sim { g with w := w' } where
 fct := s.fct.keep (keep_below h)
 blk i cells hi := by
  obtain ⟨xs, T, h1, h2, h3, h4⟩ := s.blk i cells hi;exact ⟨xs, T, (h.block _ (blk_lt s hi)).trans h1, h2, fun j hj => (h3 j hj).keep (keep_below h), h4⟩
 iter i t pos hi := (h.block _ (iter_lt s hi)).trans (s.iter i t pos hi)
 room t e ht k hk := by
  obtain ⟨x, h1, h2⟩ := s.room t e ht k hk;have hb := cell_lt h1;refine ⟨x, ?_, ?_⟩
  ·simp only [World.cell?] at h1 ⊢; rw [h.block _ hb]; exact h1
  ·simp only [World.frozen?] at h2 ⊢; rw [h.block _ hb]; exact h2
 disj := s.disj
 inb a ha := Nat.lt_of_lt_of_le (s.inb a ha) h.size
 xdis := s.xdis
 mapo i es hi := by
  obtain ⟨o', h1, h2⟩ := s.mapo i es hi;exact ⟨o', (h.block _ (mapo_lt s hi)).trans h1, h2.keep (keep_below h)⟩
 opq i φ hi := by
  have e1 := h.block _ (Ll s hi (.inl rfl));have e2 := h.block _ (Ll s hi (.inr rfl));show φ _ _ (w'.heap[g.β i]?) (w'.heap[(g.ρ i).b]?);rw [e1, e2]; exact s.opq i φ hi
 own i P cur hi := s.ownKeep (keep_below h).toKeep0 (fun a ha => Nat.lt_of_lt_of_le (s.inb a ha) h.size) hi hi rfl rfl fun b hb => h.block _ (Ll s hi hb)
 arr i z els hi := (s.arr i z els hi).keep0 (keep_below h).toKeep0 fun hne => h.block _ (Ll s hi ⟨hne, rfl⟩)
 mapr i es vis cur t hi := by
  obtain ⟨t1, t2, o', oi, h1, h2, h3⟩ := s.mapr i es vis cur t hi;exact ⟨t1, t2, o', oi, (h.block _ (Ll s hi (.inl rfl))).trans h1, (h.block _ (Ll s hi (.inr rfl))).trans h2, h3.keep (keep_below h)⟩
end Go.Ab
end
section
namespace Go.Ab
variable {P : Program} {ty : TyTab} {Γ : Gam} {n B : Nat} {Q : Exit → St → Prop} {σ : St}
@[simp] theorem getV_SI (k2 : IntKind) (x : ByteArray) (d : Int) (m : List (ByteArray × Int)) : getV (.string x) (.lit (.int k2 d)) (qas kS (kI k2) m) = .lit (.int k2 (getM eqS x d m)) := getV_S (vE := kI k2) (d := d) rfl x m
@[simp] theorem setV_SI (k2 : IntKind) (x : ByteArray) (v : Int) (m : List (ByteArray × Int)) : setV (.string x) (.lit (.int k2 v)) (qas kS (kI k2) m) = qas kS (kI k2) (setM eqS x v m) := setV_S (vE := kI k2) (v := v) rfl x m
theorem getV_at {V : Type} {kk : IntKind} {vE : V → AV} {k : Int} {v : V} {z : AV} : ∀ {m : List (Int × V)}, (m.map (·.1)).Nodup → (k, v) ∈ m → getV (.int kk k) z (qas (kI kk) vE m) = vE v := by
 intro m hn hm
 have hz : getV (.int kk k) z (qas (kI kk) vE m) = getV (.int kk k) (vE v) (qas (kI kk) vE m) := by
  clear hn
  induction m with
  | nil => cases hm
  | cons e r ih =>
    simp only [qas, List.map_cons, kI, getV];split
    ·rfl
    ·rename_i hne;refine ih ?_;rcases List.mem_cons.1 hm with rfl | h
     ·have he : eqI k k = true := by simp [eqI]
      simp [sameV, he] at hne
     ·exact h
 rw [hz, getV_I (d := v) rfl];congr 1;clear hz
 induction m with
 | nil => cases hm
 | cons e r ih =>
   rw [getM];rw [List.map_cons, List.nodup_cons] at hn;rcases List.mem_cons.1 hm with rfl | h
   ·rw [if_pos (by simp [eqI])]
   ·have : k ≠ e.1 := fun q => hn.1 (List.mem_map.2 ⟨(k, v), h, q⟩);rw [if_neg (by simp [eqI, this])];exact ih hn.2 h
theorem nodup_len {α : Type} : ∀ {l m : List α}, l.Nodup → (∀ x ∈ l, x ∈ m) → l.length ≤ m.length
 | [], _, _, _ => Nat.zero_le _
 | a :: l, m, h, hs => by
   rw [List.nodup_cons] at h;obtain ⟨m1, m2, rfl⟩ := List.append_of_mem (hs a (List.mem_cons_self))
   have := nodup_len (l := l) (m := m1 ++ m2) h.2 fun x hx => by
    have hx' := hs x (List.mem_cons_of_mem _ hx);rcases List.mem_append.1 hx' with q | q
    ·exact List.mem_append.2 (.inl q)
    ·rcases List.mem_cons.1 q with rfl | q
     ·exact absurd hx h.1
     ·exact List.mem_append.2 (.inr q)
   simp only [List.length_append, List.length_cons] at this ⊢;omega
theorem AWp.rangeM {c : Code} {V X : Type} {kk : IntKind} {vE : V → AV} {id i u mm : Nat} (m : List (Int × V)) (I : List (Int × V) → X → Prop) (E : X → List Value → Option Value → St) (EX : X → St)
  (hE : ∀ x vis cur, (E x vis cur).M[i]? = some (.mapr (qas (kI kk) vE m) vis cur u)) (x0 : X) (hc : Conv B mm σ (E x0 [] none)) (h0 : I [] x0)
  (round : ∀ x vis cur done, (m.map (·.1)).Nodup → I done x → vis = done.map (fun e => Value.int kk e.1) → AWp P n B c (fun e σ' => (e = .exit id ∧ (∀ k v, (AV.lit k, v) ∈ qas (kI kk) vE m → k ∈ vis) ∧ ∃ mx, Conv B mx σ' (EX x)) ∨
   (e = .normal ∧ ∃ (k : Int) (v : V), Value.int kk k ∉ vis ∧ (k, v) ∈ m ∧ ∃ x', I ((k, v) :: done) x' ∧ ∃ mx, Conv B mx σ' (E x' (.int kk k :: vis) (some (.int kk k))))) (E x vis cur))
  (hq : ∀ x σ' mx done, done.Perm m → I done x → Conv B mx σ' (EX x) → Q .normal σ') : AWp P n B (.block id (.loop c)) Q σ := by
 intro g0 g a at_;obtain ⟨g1, _, at1⟩ := hc.at at_;have hN := keys_nodup at1.sim (by rw [at1.mem]; exact hE x0 [] none)
 refine (AWp.block (AWp.loop' (fun q σ => ∃ x vis cur done, σ = E x vis cur ∧ I done x ∧ vis = done.map (fun e => Value.int kk e.1) ∧ (∀ e ∈ done, e ∈ m) ∧ done.Nodup ∧ done.length + q = m.length + 1) (m.length + 1) mm _
  (hc := hc) ⟨x0, [], none, [], rfl, h0, rfl, fun _ h => (by cases h), .nil, by simp⟩ ?_) : AWp P n B (.block id (.loop c)) Q σ) g0 g a at_
 rintro q σ ⟨x, vis, cur, done, rfl, hI, hv, hd, hnd, hl⟩;refine AWp.mono (round x vis cur done hN hI hv) fun e σ' h => ?_;have hsub : done.length ≤ m.length := nodup_len hnd hd;rcases h with ⟨rfl, h1, mx, h2⟩ | ⟨rfl, k, v, h1, h2, x', h3, mx, h4⟩
 ·simp only [thenS, blockS, if_true];refine hq x σ' mx done ?_ hI h2
  have hmn : m.Nodup := by
   unfold List.Nodup at hN ⊢;rw [List.pairwise_map] at hN;exact hN.imp fun h q => h (by rw [q])
  refine (List.perm_ext_iff_of_nodup hnd hmn).2 fun e => ⟨hd e, fun he => ?_⟩;have := h1 (.int kk e.1) (vE e.2) (List.mem_map.2 ⟨e, he, rfl⟩);rw [hv] at this;obtain ⟨e', he', hk⟩ := List.mem_map.1 this;have hk' : e'.1 = e.1 := by injection hk
  have : e' = e := by
   have hN' := hN;unfold List.Nodup at hN';rw [List.pairwise_map] at hN';refine Classical.byContradiction fun hne => ?_;obtain ⟨i1, hi1, e1⟩ := List.mem_iff_getElem.1 (hd e' he');obtain ⟨i2, hi2, e2⟩ := List.mem_iff_getElem.1 he;rcases Nat.lt_trichotomy i1 i2 with h | h | h
   ·have := List.pairwise_iff_getElem.1 hN' i1 i2 hi1 hi2 h;rw [e1, e2] at this; exact this hk'
   ·subst h; exact hne (e1.symm.trans e2)
   ·have := List.pairwise_iff_getElem.1 hN' i2 i1 hi2 hi1 h;rw [e1, e2] at this; exact this hk'.symm
  rw [← this]; exact he'
 ·simp only [thenS];have hnew : (k, v) ∉ done := fun h => h1 (by rw [hv]; exact List.mem_map.2 ⟨_, h, rfl⟩)
  have hd' : ∀ e ∈ (k, v) :: done, e ∈ m := fun e he => by
   rcases List.mem_cons.1 he with rfl | he
   ·exact h2
   ·exact hd e he
  have hnd' : ((k, v) :: done).Nodup := List.nodup_cons.2 ⟨hnew, hnd⟩;have hsub' : ((k, v) :: done).length ≤ m.length := nodup_len hnd' hd';simp only [List.length_cons] at hsub';refine ⟨q - 1, mx, _, by omega, h4, x', _, _, (k, v) :: done, rfl, h3, by rw [hv]; rfl, hd', hnd', by simp only [List.length_cons]; omega⟩
end Go.Ab
end
section
namespace Go.Ab
@[simp] theorem decL_d {α : Type} (d : List AV → α) (els : List (List AV)) (tok : Tok) : decL d [.sl els tok] = els.map d := rfl
theorem Weak.trans {a b : AV} (h : Weak a b) : ∀ {c : AV}, Weak b c → Weak a c := by
 induction h with
 | refl a => intro c h; exact h
 | tok els tok =>
   intro c h;cases h with
   | refl => exact .tok _ _
   | tok => exact .tok _ _
 | agg l l' hl h ih =>
   intro c h';cases h' with
   | refl => exact .agg _ _ hl h
   | agg _ l'' hl' h'' => exact .agg _ _ (hl.trans hl') fun j h1 h2 => ih j h1 (by omega) (h'' j (by omega) h2)
 | tup l l' hl h ih =>
   intro c h';cases h' with
   | refl => exact .tup _ _ hl h
   | tup _ l'' hl' h'' => exact .tup _ _ (hl.trans hl') fun j h1 h2 => ih j h1 (by omega) (h'' j (by omega) h2)
theorem WObj.trans {a b c : qau} (h : WObj a b) (h' : WObj b c) : WObj a c := by
 cases h with
 | refl => exact h'
 | dead =>
   cases h' with
   | refl => exact .dead _
   | dead => exact .dead _
 | mapr es vis cur t =>
   cases h' with
   | refl => exact .mapr _ _ _ _
   | dead => exact .dead _
 | blk l l' hl h =>
   cases h' with
   | refl => exact .blk _ _ hl h
   | dead => exact .dead _
   | blk _ l'' hl' h'' => exact .blk _ _ (hl.trans hl') fun j h1 h2 => (h j h1 (by omega)).trans (h'' j (by omega) h2)
theorem WMem.trans {a b : List qau} (h : WMem a b) : ∀ {c : List qau}, WMem b c → WMem a c := by
 induction h with
 | nil => intro c h; exact h
 | cons h _ ih =>
   intro c h';cases h' with
   | cons q r => exact .cons (h.trans q) (ih r)
theorem WMem.take {a b : List qau} (h : WMem a b) : ∀ n : Nat, WMem (a.take n) (b.take n) := by
 induction h with
 | nil => intro n; simp only [List.take_nil]; exact .nil
 | cons h _ ih =>
   intro n;cases n with
   | zero => exact .nil
   | succ n => exact .cons h (ih n)
theorem subE_mem {A : Env} : ∀ {A' : Env}, subE A A' → ∀ e ∈ A', e.tag = none ∧ ∃ av, ent A e.t = some (none, av) ∧ Weak av e.av
 | ⟨t, tag, av⟩ :: r, h, e, he => by
   obtain ⟨h1, h2⟩ := h;rcases List.mem_cons.1 he with rfl | he
   ·split at h1
    ·rename_i av' htag hent;exact ⟨htag, av', hent, h1⟩
    ·exact h1.elim
   ·exact subE_mem h2 e he
theorem subE_of {A : Env} : ∀ {A' : Env}, (∀ e ∈ A', e.tag = none ∧ ∃ av, ent A e.t = some (none, av) ∧ Weak av e.av) → subE A A'
 | [], _ => trivial
 | ⟨t, tag, av⟩ :: r, h => by
   obtain ⟨h1, av', h2, h3⟩ := h _ (.head _);simp only at h1 h2 h3;refine ⟨?_, subE_of fun e he => h e (.tail _ he)⟩;simp only [h1, h2];exact h3
theorem Conv.trans {B m m' : Nat} {σ σ' σ'' : St} (h : Conv B m σ σ') (h' : Conv B m' σ' σ'') : Conv B m' σ σ'' := by
 obtain ⟨a1, a2, a3, a4, a5, a6⟩ := h;obtain ⟨b1, b2, b3, b4, b5, b6⟩ := h';have hl := a5.length;rw [List.length_take] at hl;have hm : m' ≤ m := by omega
 refine ⟨b1, by omega, subE_of fun e he => ?_, b4, ?_, b6⟩
 ·obtain ⟨e1, av, e2, e3⟩ := subE_mem b3 e he;obtain ⟨_, av', e5, e6⟩ := subE_mem a3 _ (ent_mem e2);exact ⟨e1, av', e5, e6.trans e3⟩
 ·have := a5.take m';rw [List.take_take, Nat.min_eq_left hm] at this;exact this.trans b5
end Go.Ab
end

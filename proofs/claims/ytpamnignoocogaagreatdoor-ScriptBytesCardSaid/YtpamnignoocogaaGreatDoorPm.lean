/- Maps whose values own what they point to: an entry is opened, its objects come up, and it is closed again. No condition: over any program. -/
import Derived.Test.YtpamnignoocogaaGreatDoorAb9
namespace Go.Ab

/-- What a value owns: objects N of its own, and how it reads (V), in the blocks bs. -/
def Pk (N : List AObj) (V : AV) (w : World) (C : Addr → Prop) (bs : Nat → Prop) (v : Value) : Prop :=
  ∃ g : G, g.M = N ∧ g.w = w ∧ Sim g ∧ R g V v ∧ (∀ a, g.regM a ↔ bs a.block) ∧ ∀ a, g.X a ↔ C a ∧ ¬ bs a.block

theorem Pk.keep {N : List AObj} {V : AV} {w : World} {C : Addr → Prop} {w' : World} {C' : Addr → Prop} {bs : Nat → Prop} {v : Value} (k : HK w C w' C' bs) (h : Pk N V w C bs v) : Pk N V w' C' bs v := by
  obtain ⟨g, rfl, rfl, s, r, h1, h2⟩ := h
  have hreg : ∀ a, g.reg a ↔ C a := fun a => by
    constructor
    · rintro (h | h)
      · exact ((h2 a).1 h).1
      · exact k.inC a ((h1 a).1 h)
    · intro h
      by_cases hb : bs a.block
      · exact .inr ((h1 a).2 hb)
      · exact .inl ((h2 a).2 ⟨h, hb⟩)
  let g' : G := ⟨g.M, g.β, g.ρ, w', fun a => C' a ∧ ¬ bs a.block⟩
  have hreg' : ∀ a, g'.reg a ↔ C' a := fun a => by
    constructor
    · rintro (h | h)
      · exact h.1
      · exact k.inC' a ((h1 a).1 h)
    · intro h
      by_cases hb : bs a.block
      · exact .inr ((h1 a).2 hb)
      · exact .inl ⟨h, hb⟩
  have k0 : Keep0 g g' := ⟨Nat.le_refl _, fun _ _ => rfl, fun _ _ e h => ⟨e, h, Nat.le_refl _, fun _ => rfl⟩, k.size, fun a x hx hr => k.cells a x hx fun q => hr ((hreg a).2 q), fun a ha hr q => k.regs a ha (fun q' => hr ((hreg a).2 q')) ((hreg' a).1 q),
    fun b hb hr => k.blocks b hb fun off q => hr off ((hreg _).2 q), k.io⟩
  have hin : ∀ a, g'.reg a → a.block < g'.w.heap.size := fun a ha => k.inb' a ((hreg' a).1 ha)
  have hblk : ∀ {i : Nat} {o : AObj} {a : Addr}, g.M[i]? = some o → o.covers (g.β i) (g.ρ i) a → w'.heap[a.block]? = g.w.heap[a.block]? := fun {i o a} hi hc => k.own _ ((h1 a).1 ⟨i, o, hi, hc⟩)
  have hwh : ∀ {i : Nat} {o : AObj} {b : Nat}, g.M[i]? = some o → o.whole (g.β i) (g.ρ i) b → w'.heap[b]? = g.w.heap[b]? := fun {i o b} hi hw => hblk (a := ⟨b, 0, none⟩) hi hw.covers
  refine ⟨g', rfl, rfl, ?_, r.keep0 k0, h1, fun a => Iff.rfl⟩
  refine ⟨s.fct.keep0 k0, fun i cells hi => ?_, fun i t pos hi => (hwh hi rfl).trans (s.iter i t pos hi), fun t e ht n hn => ?_, s.disj, hin, fun a ha q => ha.2 ((h1 a).1 q), fun i es hi => ?_, fun i es vis cur t hi => ?_, fun i φ hi => ?_, fun i P cur hi => ?_, fun i z els hi => ?_⟩
  · obtain ⟨xs, T, q1, q2, q3, q4⟩ := s.blk i cells hi
    exact ⟨xs, T, (hwh hi rfl).trans q1, q2, fun j hj => (q3 j hj).keep0 k0, q4⟩
  · obtain ⟨x, q1, q2⟩ := s.room t e ht n hn
    have hb : w'.heap[(g.ρ t).b]? = g.w.heap[(g.ρ t).b]? := hblk (a := ⟨(g.ρ t).b, (g.ρ t).off + n, none⟩) ht ⟨rfl, by simp, by simpa using hn⟩
    exact ⟨x, by simpa only [g', World.cell?, hb] using q1, by simpa only [g', World.frozen?, hb] using q2⟩
  · obtain ⟨o, q1, q2⟩ := s.mapo i es hi
    exact ⟨o, (hwh hi rfl).trans q1, q2.keep0 k0⟩
  · obtain ⟨t1, t2, o, oi, q1, q2, q3⟩ := s.mapr i es vis cur t hi
    exact ⟨t1, t2, o, oi, (hwh hi (.inl rfl)).trans q1, (hwh hi (.inr rfl)).trans q2, q3.keep0 k0⟩
  · have e1 := hwh hi (.inl rfl)
    have e2 := hwh hi (.inr rfl)
    show φ _ _ (w'.heap[g.β i]?) (w'.heap[(g.ρ i).b]?)
    rw [e1, e2]; exact s.opq i φ hi
  · exact s.ownKeep k0 hin hi hi rfl rfl fun b hb => hwh hi hb
  · exact (s.arr i z els hi).keep0 k0 fun hne => hwh hi ⟨hne, rfl⟩

/-- The rows of such a map: keys, what their values own; 'hole': the key whose row is let out. -/
inductive Rows {K T : Type} (kE : K → Value) (N : T → List AObj) (V : T → AV) (w : World) (C : Addr → Prop) (hole : Option Value) : (Nat → Prop) → List (K × T) → List (Value × Value) → Prop
  | nil (bs : Nat → Prop) (h : ∀ b, ¬ bs b) : Rows kE N V w C hole bs [] []
  | hole (bs : Nat → Prop) (k : K) (x : T) (u : Value) (r : List (K × T)) (l : List (Value × Value)) (hk : hole = some (kE k)) (q : Rows kE N V w C hole bs r l) : Rows kE N V w C hole bs ((k, x) :: r) ((kE k, u) :: l)
  | cons (bs b1 b2 : Nat → Prop) (k : K) (x : T) (u : Value) (r : List (K × T)) (l : List (Value × Value)) (hk : hole ≠ some (kE k)) (p : Pk (N x) (V x) w C b1 u) (hb : ∀ b, bs b ↔ b1 b ∨ b2 b) (hd : ∀ b, b1 b → ¬ b2 b)
      (q : Rows kE N V w C hole b2 r l) : Rows kE N V w C hole bs ((k, x) :: r) ((kE k, u) :: l)

section
variable {K T : Type} {kE : K → Value} {N : T → List AObj} {V : T → AV} {w : World} {C : Addr → Prop} {hole : Option Value}

theorem Rows.keep {w' : World} {C' : Addr → Prop} {bs : Nat → Prop} {rows : List (K × T)} {l : List (Value × Value)} (h : Rows kE N V w C hole bs rows l) (k : HK w C w' C' bs) : Rows kE N V w' C' hole bs rows l := by
  induction h with
  | nil bs h => exact .nil bs h
  | hole bs c x u r l hk _ ih => exact .hole bs c x u r l hk (ih k)
  | cons bs b1 b2 c x u r l hk p hb hd _ ih =>
    have hsub : ∀ {b0 : Nat → Prop}, (∀ b, b0 b → bs b) → HK w C w' C' b0 := fun {b0} h => ⟨k.size, k.cells, k.regs, k.blocks, k.io, fun b hb => k.own b (h b hb), fun a ha => k.inC a (h _ ha), fun a ha => k.inC' a (h _ ha), k.inb'⟩
    exact .cons bs b1 b2 c x u r l hk (p.keep (hsub fun b h => (hb b).2 (.inl h))) hb hd (ih (hsub fun b h => (hb b).2 (.inr h)))

theorem Rows.mem {bs : Nat → Prop} {rows : List (K × T)} {l : List (Value × Value)} (h : Rows kE N V w C hole bs rows l) : l.map (·.1) = rows.map fun e => kE e.1 := by
  induction h with
  | nil => rfl
  | hole _ _ _ _ _ _ _ _ ih => simp [ih]
  | cons _ _ _ _ _ _ _ _ _ _ _ _ _ ih => simp [ih]

/-- Away from the hole it does not matter. -/
theorem Rows.rehole {hole' : Option Value} {bs : Nat → Prop} {rows : List (K × T)} {l : List (Value × Value)} (h : Rows kE N V w C hole bs rows l) (h1 : ∀ e ∈ l, hole ≠ some e.1) (h2 : ∀ e ∈ l, hole' ≠ some e.1) : Rows kE N V w C hole' bs rows l := by
  induction h with
  | nil bs h => exact .nil bs h
  | hole bs k x u r l hk _ _ => exact absurd hk (h1 _ (.head _))
  | cons bs b1 b2 c x u r l hk p hb hd _ ih => exact .cons bs b1 b2 c x u r l (h2 _ (.head _)) p hb hd (ih (fun e he => h1 e (.tail _ he)) fun e he => h2 e (.tail _ he))
end

/-- A map of such rows. -/
def ownP {K T : Type} (key : Value → Prop) (kE : K → Value) (fl : T → AV) (N : T → List AObj) (V : T → AV) (rows : List (K × T)) (hole : Option Value) : Own where
  key := key
  data := rows.map fun e => (.lit (kE e.1), fl e.2)
  rel w C bs l := Rows kE N V w C hole bs rows l
  keep k h := h.keep k

/-- The row of a key. -/
def findM {K T : Type} (eq : K → K → Bool) (k : K) : List (K × T) → Option T
  | [] => none
  | (c, x) :: r => if eq k c = true then some x else findM eq k r

/-- Equality of keys is that of their values. -/
def KeyEq {K : Type} (eq : K → K → Bool) (kE : K → Value) : Prop := ∀ a b, eq a b = true ↔ kE a = kE b

section
variable {K T : Type} {kE : K → Value} {N : T → List AObj} {V : T → AV} {w : World} {C : Addr → Prop} {eq : K → K → Bool}

theorem findM_none (he : KeyEq eq kE) {k : K} : ∀ {rows : List (K × T)}, findM eq k rows = none → ∀ e ∈ rows, kE e.1 ≠ kE k
  | [], _, e, h => by cases h
  | (c, x) :: r, h, e, hm => by
    unfold findM at h
    cases hc : eq k c with
    | true => simp [hc] at h
    | false =>
      simp only [hc, Bool.false_eq_true, if_false] at h
      cases hm with
      | head => intro q; rw [(he k c).2 q.symm] at hc; cases hc
      | tail _ hm => exact findM_none he h e hm

theorem findM_key (he : KeyEq eq kE) {k : K} {x : T} : ∀ {rows : List (K × T)}, findM eq k rows = some x → ∃ e ∈ rows, kE e.1 = kE k
  | [], h => by cases h
  | (c, y) :: r, h => by
    unfold findM at h
    cases hc : eq k c with
    | true => exact ⟨(c, y), .head _, ((he k c).1 hc).symm⟩
    | false =>
      simp only [hc, Bool.false_eq_true, if_false] at h
      obtain ⟨e, h1, h2⟩ := findM_key he h
      exact ⟨e, .tail _ h1, h2⟩

/-- The row of a key is taken out. -/
theorem Rows.open (he : KeyEq eq kE) {k : K} {x : T} {bs : Nat → Prop} {rows : List (K × T)} {l : List (Value × Value)} (h : Rows kE N V w C none bs rows l) (hn : (l.map (·.1)).Nodup) (hf : findM eq k rows = some x) :
    ∃ b1 b2 u, (kE k, u) ∈ l ∧ Pk (N x) (V x) w C b1 u ∧ Rows kE N V w C (some (kE k)) b2 rows l ∧ (∀ b, bs b ↔ b1 b ∨ b2 b) ∧ ∀ b, b1 b → ¬ b2 b := by
  generalize hh : (none : Option Value) = hole at h
  induction h with
  | nil bs h => cases hf
  | hole bs c y u r l hk _ _ => subst hh; cases hk
  | cons bs b1 b2 c y u r l hk p hb hd q ih =>
    subst hh
    unfold findM at hf
    simp only [List.map_cons, List.nodup_cons] at hn
    cases hc : eq k c with
    | true =>
      simp only [hc, if_true] at hf
      obtain rfl : y = x := Option.some.inj hf
      have hkc := (he k c).1 hc
      refine ⟨b1, b2, u, by rw [hkc]; exact .head _, p, ?_, hb, hd⟩
      rw [hkc]
      refine .hole b2 c y u r l rfl (q.rehole (fun e _ h => by cases h) fun e hm h => ?_)
      exact hn.1 (Option.some.inj h ▸ List.mem_map.2 ⟨e, hm, rfl⟩)
    | false =>
      simp only [hc, Bool.false_eq_true, if_false] at hf
      obtain ⟨d1, d2, v, h1, h2, h3, h4, h5⟩ := ih hn.2 hf
      have hne : kE k ≠ kE c := fun h => by rw [(he k c).2 h] at hc; cases hc
      refine ⟨d1, fun b => b1 b ∨ d2 b, v, .tail _ h1, h2, .cons _ b1 d2 c y u r l (fun h => hne (Option.some.inj h)) p (fun b => Iff.rfl) (fun b h q => hd b h ((h4 b).2 (.inr q))) h3, fun b => ?_, fun b h q => ?_⟩
      · rw [hb, h4]
        constructor
        · rintro (h | h | h)
          · exact .inr (.inl h)
          · exact .inl h
          · exact .inr (.inr h)
        · rintro (h | h | h)
          · exact .inr (.inl h)
          · exact .inl h
          · exact .inr (.inr h)
      · rcases q with q | q
        · exact hd b q ((h4 b).2 (.inl h))
        · exact h5 b h q

/-- And put in again. -/
theorem Rows.close (he : KeyEq eq kE) {k : K} {x : T} {b1 b2 bs : Nat → Prop} {rows : List (K × T)} {l : List (Value × Value)} {u : Value} (h : Rows kE N V w C (some (kE k)) b2 rows l) (hn : (l.map (·.1)).Nodup) (hm : (kE k, u) ∈ l)
    (p : Pk (N x) (V x) w C b1 u) (hb : ∀ b, bs b ↔ b1 b ∨ b2 b) (hd : ∀ b, b1 b → ¬ b2 b) : Rows kE N V w C none bs (setM eq k x rows) l := by
  generalize hh : some (kE k) = hole at h
  induction h generalizing bs with
  | nil => cases hm
  | hole b2 c y v r l hk q ih =>
    subst hh
    have hkc : kE k = kE c := Option.some.inj hk
    simp only [List.map_cons, List.nodup_cons] at hn
    have hu : u = v := by
      rcases List.mem_cons.1 hm with hm | hm
      · exact (Prod.mk.inj hm).2
      · exact absurd (List.mem_map.2 ⟨_, hm, hkc⟩) hn.1
    subst hu
    have hq : Rows kE N V w C none b2 r l := q.rehole (fun e hm h => hn.1 (by rw [← hkc, Option.some.inj h]; exact List.mem_map.2 ⟨e, hm, rfl⟩)) fun _ _ h => by cases h
    simp only [setM, (he k c).2 hkc, if_true]
    rw [← hkc]
    exact .cons bs b1 b2 k x u r l (fun h => by cases h) p hb hd hq
  | cons b2 d1 d2 c y v r l hk p' hb' hd' q ih =>
    subst hh
    have hne : kE k ≠ kE c := fun h => hk (by rw [h])
    simp only [List.map_cons, List.nodup_cons] at hn
    have hm' : (kE k, u) ∈ l := by
      rcases List.mem_cons.1 hm with hm | hm
      · exact absurd (Prod.mk.inj hm).1 hne
      · exact hm
    have hc : eq k c = false := by
      cases hc : eq k c with
      | true => exact absurd ((he k c).1 hc) hne
      | false => rfl
    have ih' := ih (bs := fun b => b1 b ∨ d2 b) hn.2 hm' (fun b => Iff.rfl) (fun b h q => hd b h ((hb' b).2 (.inr q)))
    simp only [setM, hc, Bool.false_eq_true, if_false]
    refine .cons bs d1 _ c y v _ l (fun h => by cases h) p' (fun b => ?_) (fun b h q => ?_) ih'
    · rw [hb, hb']
      constructor
      · rintro (h | h | h)
        · exact .inr (.inl h)
        · exact .inl h
        · exact .inr (.inr h)
      · rintro (h | h | h)
        · exact .inr (.inl h)
        · exact .inl h
        · exact .inr (.inr h)
    · rcases q with q | q
      · exact hd b q ((hb' b).2 (.inl h))
      · exact hd' b h q

/-- A row more. -/
theorem Rows.push {k : K} {x : T} {b1 b2 bs : Nat → Prop} {rows : List (K × T)} {l : List (Value × Value)} {u : Value} (h : Rows kE N V w C none b2 rows l) (p : Pk (N x) (V x) w C b1 u) (hb : ∀ b, bs b ↔ b1 b ∨ b2 b) (hd : ∀ b, b1 b → ¬ b2 b) :
    Rows kE N V w C none bs (rows ++ [(k, x)]) (l ++ [(kE k, u)]) := by
  generalize hh : (none : Option Value) = hole at h
  induction h generalizing bs with
  | nil b2 h =>
    subst hh
    exact .cons bs b1 b2 k x u [] [] (fun h => by cases h) p hb hd (.nil b2 h)
  | hole _ _ _ _ _ _ hk _ _ => subst hh; cases hk
  | cons b2 d1 d2 c y v r l hk p' hb' hd' q ih =>
    subst hh
    refine .cons bs d1 (fun b => b1 b ∨ d2 b) c y v _ _ (fun h => by cases h) p' (fun b => ?_) (fun b h q => ?_) (ih (fun b => Iff.rfl) (fun b h q => hd b h ((hb' b).2 (.inr q))))
    · rw [hb, hb']
      constructor
      · rintro (h | h | h)
        · exact .inr (.inl h)
        · exact .inl h
        · exact .inr (.inr h)
      · rintro (h | h | h)
        · exact .inr (.inl h)
        · exact .inl h
        · exact .inr (.inr h)
    · rcases q with q | q
      · exact hd b q ((hb' b).2 (.inl h))
      · exact hd' b h q

/-- A row less: its objects are let go. -/
theorem Rows.del (he : KeyEq eq kE) {k : K} {bs : Nat → Prop} {rows : List (K × T)} {l1 l2 : List (Value × Value)} {u : Value} (h : Rows kE N V w C (some (kE k)) bs rows (l1 ++ (kE k, u) :: l2)) (hn : ((l1 ++ (kE k, u) :: l2).map (·.1)).Nodup) :
    Rows kE N V w C none bs (delM eq k rows) (l1 ++ l2) := by
  generalize hl : l1 ++ (kE k, u) :: l2 = l at h hn
  generalize hh : some (kE k) = hole at h
  induction h generalizing l1 with
  | nil => simp at hl
  | hole b2 c y v r l hk q ih =>
    subst hh
    have hkc : kE k = kE c := Option.some.inj hk
    simp only [List.map_cons, List.nodup_cons] at hn
    have hl1 : l1 = [] := by
      cases l1 with
      | nil => rfl
      | cons a l1 =>
        simp only [List.cons_append, List.cons.injEq] at hl
        refine absurd (List.mem_map.2 ⟨(kE k, u), ?_, hkc⟩) hn.1
        rw [← hl.2]; simp
    subst hl1
    simp only [List.nil_append, List.cons.injEq] at hl ⊢
    obtain ⟨_, rfl⟩ := hl
    simp only [delM, (he k c).2 hkc, if_true]
    exact q.rehole (fun e hm h => hn.1 (by rw [← hkc, Option.some.inj h]; exact List.mem_map.2 ⟨e, hm, rfl⟩)) fun _ _ h => by cases h
  | cons b2 d1 d2 c y v r l hk p' hb' hd' q ih =>
    subst hh
    have hne : kE k ≠ kE c := fun h => hk (by rw [h])
    simp only [List.map_cons, List.nodup_cons] at hn
    have hc : eq k c = false := by
      cases hc : eq k c with
      | true => exact absurd ((he k c).1 hc) hne
      | false => rfl
    cases l1 with
    | nil =>
      simp only [List.nil_append, List.cons.injEq, Prod.mk.injEq] at hl
      exact absurd hl.1.1 hne
    | cons a l1 =>
      simp only [List.cons_append, List.cons.injEq] at hl
      obtain ⟨rfl, rfl⟩ := hl
      simp only [delM, hc, Bool.false_eq_true, if_false, List.cons_append]
      exact .cons b2 d1 d2 c y v _ _ (fun h => by cases h) p' hb' hd' (ih rfl hn.2)
end

/-! ### An entry is opened -/
theorem ren_own {σ : Nat → Nat} {o : AObj} {P : Own} {cur : Option (Value × Option AV)} (h : o.ren σ = .own P cur) : ∃ c, o = .own P c ∧ cur = c.map fun c => (c.1, c.2.map (AV.ren σ)) := by
  cases o <;> simp only [AObj.ren, reduceCtorEq, AObj.own.injEq] at h
  obtain ⟨rfl, rfl⟩ := h
  exact ⟨_, rfl, rfl⟩

theorem view_open {M : List AObj} {i : Nat} {P0 P1 : Own} {kv : Value} {N : List AObj} {V : AV} (hi : M[i]? = some (.own P0 none)) (hkey : P1.key = P0.key)
    (hrel : ∀ w C bs l, P0.rel w C bs l → (l.map (·.1)).Nodup → ∃ b1 b2 u, (kv, u) ∈ l ∧ Pk N V w C b1 u ∧ P1.rel w C b2 l ∧ (∀ b, bs b ↔ b1 b ∨ b2 b) ∧ ∀ b, b1 b → ¬ b2 b) :
    View M (M.set i (.own P1 (some (kv, some (V.ren (· + M.length))))) ++ N.map (AObj.ren (· + M.length))) := by
  rintro g rfl sm
  obtain ⟨ents, clock, h1, h2, h3, h4, h5, _⟩ := sm.own i P0 none hi
  have hnd : ((pairsOf ents).map (·.1)).Nodup := by
    have := h2.2.2
    simpa [pairsOf, List.map_map, Function.comp_def] using this
  obtain ⟨b1, b2, u, k1, ⟨g1, rfl, gw, gs, gr, gm, gx⟩, k3, k4, k5⟩ := hrel _ _ _ _ h5 hnd
  have hlt : i < g.M.length := lt_of_some hi
  let n := g.M.length
  let σ : Nat → Nat := (· + n)
  let o1 : AObj := .own P1 (some (kv, some (V.ren σ)))
  let M' := g.M.set i o1 ++ g1.M.map (AObj.ren σ)
  let β' : Nat → Nat := fun j => if j < n then g.β j else g1.β (j - n)
  let ρ' : Nat → Room := fun j => if j = i then ⟨(g.ρ i).b, (g.ρ i).off, (g.ρ i).cnt, b2⟩ else if j < n then g.ρ j else g1.ρ (j - n)
  let g' : G := ⟨M', β', ρ', g.w, g.X⟩
  have hβ1 : ∀ j, j < n → β' j = g.β j := fun j hj => by simp only [β', hj, if_true]
  have hβ2 : ∀ k, β' (k + n) = g1.β k := fun k => by simp only [β', show ¬ k + n < n by omega, if_false, Nat.add_sub_cancel]
  have hρ1 : ∀ j, j < n → j ≠ i → ρ' j = g.ρ j := fun j hj hne => by simp only [ρ', hne, hj, if_true, if_false]
  have hρ2 : ∀ k, ρ' (k + n) = g1.ρ k := fun k => by simp only [ρ', show ¬ k + n = i by omega, show ¬ k + n < n by omega, if_false, Nat.add_sub_cancel]
  have hρ3 : (ρ' i).bs = b2 := by simp only [ρ', if_true]
  have hcase : ∀ j o, M'[j]? = some o → (j < n ∧ j ≠ i ∧ g.M[j]? = some o) ∨ (j = i ∧ o = o1) ∨ ∃ k o', j = k + n ∧ g1.M[k]? = some o' ∧ o = o'.ren σ := fun j o hj => by
    rcases Nat.lt_or_ge j n with h | h
    · have hj' : (g.M.set i o1)[j]? = some o := by rw [← hj]; exact (List.getElem?_append_left (by simpa using h)).symm
      rcases put_get hj' with ⟨q1, q2⟩ | ⟨q1, q2⟩
      · exact .inl ⟨h, q1, q2⟩
      · exact .inr (.inl ⟨q1, q2⟩)
    · have hj' : (g1.M.map (AObj.ren σ))[j - n]? = some o := by
        have e : (g.M.set i o1).length = n := by simp [n]
        have := List.getElem?_append_right (l₁ := g.M.set i o1) (l₂ := g1.M.map (AObj.ren σ)) (i := j) (by rw [e]; exact h)
        rw [e] at this; rw [← this]; exact hj
      rw [List.getElem?_map] at hj'
      obtain ⟨o', q1, q2⟩ := Option.map_eq_some_iff.1 hj'
      exact .inr (.inr ⟨j - n, o', by omega, q1, q2.symm⟩)
  have hget1 : ∀ {j : Nat} {o : AObj}, g.M[j]? = some o → j ≠ i → M'[j]? = some o := fun {j o} hj hne => by
    rw [List.getElem?_append_left (by simpa using lt_of_some hj), List.getElem?_set_ne (Ne.symm hne)]; exact hj
  have hgeti : M'[i]? = some o1 := by rw [List.getElem?_append_left (by simpa using hlt), List.getElem?_set_self hlt]
  have hget2 : ∀ {k : Nat} {o : AObj}, g1.M[k]? = some o → M'[k + n]? = some (o.ren σ) := fun {k o} hk => by
    have e : (g.M.set i o1).length = n := by simp [n]
    rw [List.getElem?_append_right (by omega), e, Nat.add_sub_cancel, List.getElem?_map, hk]; rfl
  have hb1 : ∀ a : Addr, b1 a.block → (AObj.own P0 none).covers (g.β i) (g.ρ i) a := fun a h => .inr ((k4 _).2 (.inl h))
  have hg1r : ∀ a, g.reg a → g1.reg a := fun a h => by
    by_cases hb : b1 a.block
    · exact .inr ((gm a).2 hb)
    · exact .inl ((gx a).2 ⟨h, hb⟩)
  have hcov1 : ∀ a, o1.covers (β' i) (ρ' i) a → (AObj.own P0 none).covers (g.β i) (g.ρ i) a ∧ ¬ b1 a.block := fun a h => by
    rcases h with h | h
    · rw [hβ1 i hlt] at h
      exact ⟨.inl h, fun q => h4 (h ▸ (k4 _).2 (.inl q))⟩
    · rw [hρ3] at h
      exact ⟨.inr ((k4 _).2 (.inr h)), fun q => k5 _ q h⟩
  have hcov2 : ∀ {k : Nat} {o : AObj} {a : Addr}, g1.M[k]? = some o → (o.ren σ).covers (β' (k + n)) (ρ' (k + n)) a → o.covers (g1.β k) (g1.ρ k) a ∧ b1 a.block := fun {k o a} hk h => by
    rw [hβ2, hρ2] at h
    have := ren_covers.1 h
    exact ⟨this, (gm a).1 ⟨k, o, hk, this⟩⟩
  have hreg : ∀ a, g'.reg a → g.reg a := by
    rintro a (h | ⟨j, o, hj, hc⟩)
    · exact .inl h
    · rcases hcase j o hj with ⟨q1, q2, q3⟩ | ⟨rfl, rfl⟩ | ⟨k, o', rfl, q2, rfl⟩
      · exact reg_of q3 (by have := hc; simp only [g', hβ1 j q1, hρ1 j q1 q2] at this; exact this)
      · exact reg_of hi (hcov1 a hc).1
      · exact reg_of hi (hb1 a (hcov2 q2 hc).2)
  have hreg2 : ∀ a, g.reg a → g'.reg a := by
    rintro a (h | ⟨j, o, hj, hc⟩)
    · exact .inl h
    · by_cases hji : j = i
      · subst hji
        rw [hi] at hj; cases hj
        by_cases hb : b1 a.block
        · obtain ⟨k, o, q1, q2⟩ := (gm a).2 hb
          exact .inr ⟨k + n, _, hget2 q1, by show (o.ren σ).covers (β' (k + n)) (ρ' (k + n)) a; rw [hβ2, hρ2]; exact ren_covers.2 q2⟩
        · refine .inr ⟨j, o1, hgeti, ?_⟩
          rcases hc with hc | hc
          · exact .inl (hc.trans (hβ1 j hlt).symm)
          · refine .inr ?_
            show (ρ' j).bs a.block
            rw [hρ3]
            rcases (k4 _).1 hc with h | h
            · exact absurd h hb
            · exact h
      · have := lt_of_some hj
        exact .inr ⟨j, o, hget1 hj hji, by show o.covers (β' j) (ρ' j) a; rw [hβ1 j this, hρ1 j this hji]; exact hc⟩
  have hlen : M'.length = n + g1.M.length := by simp [M', n]
  have kg : Keep g g' := by
    refine ⟨⟨by show n ≤ M'.length; omega, hβ1, fun t ht e' he' => ?_, Nat.le_refl _, fun _ _ h _ => h, fun a _ h q => h (hreg a q), fun _ _ _ => rfl, ⟨rfl, rfl⟩⟩, fun _ h => h, fun _ _ _ => ⟨rfl, rfl⟩, fun _ _ _ => rfl⟩
    rcases hcase t _ he' with ⟨q1, q2, q3⟩ | ⟨_, h⟩ | ⟨k, _, rfl, _, _⟩
    · exact ⟨e', q3, Nat.le_refl _, fun _ => hρ1 t q1 q2⟩
    · simp [o1] at h
    · omega
  have hinto : Into σ g1 g' := by
    refine ⟨fun k hk => by show k + n < M'.length; omega, fun k _ => hβ2 k, fun t ht e he => ?_, gw.symm, fun a h => hg1r a (hreg a h)⟩
    have h7 := hget2 (List.getElem?_eq_getElem ht)
    have h8 : (g1.M[t]).ren σ = .room e := Option.some.inj (h7.symm.trans he)
    refine ⟨?_, hρ2 t⟩
    rw [List.getElem?_eq_getElem ht]
    cases hw : g1.M[t] <;> rw [hw] at h8 <;> simp only [AObj.ren, reduceCtorEq, AObj.room.injEq] at h8
    subst h8; rfl
  have hin : ∀ a, g'.reg a → a.block < g'.w.heap.size := fun a h => sm.inb a (hreg a h)
  have hdis : ∀ {j : Nat} {o : AObj} {a : Addr}, g.M[j]? = some o → j ≠ i → o.covers (g.β j) (g.ρ j) a → ¬ (AObj.own P0 none).covers (g.β i) (g.ρ i) a := fun {j o a} hj hne hc h => hne (sm.disj j i o _ a hj hi hc h)
  refine ⟨β', ρ', ?_, kg⟩
  refine ⟨sm.fct.keep kg, fun j cells hj => ?_, fun j t pos hj => ?_, fun t e ht x hx => ?_, fun j j' oj oj' a hj hj' hcj hcj' => ?_, hin, fun a ha => ?_, fun j es hj => ?_, fun j es vis cur t hj => ?_, fun j φ hj => ?_, fun j P cur hj => ?_, fun j z els hj => ?_⟩
  · rcases hcase j _ hj with ⟨q1, q2, q3⟩ | ⟨_, h⟩ | ⟨k, o', rfl, q2, q3⟩
    · obtain ⟨xs, T, r1, r2, r3, r4⟩ := sm.blk j cells q3
      exact ⟨xs, T, by show g.w.heap[β' j]? = _; rw [hβ1 j q1]; exact r1, r2, fun x hx => (r3 x hx).keep kg, r4⟩
    · simp [o1] at h
    · cases o' <;> simp only [AObj.ren, reduceCtorEq, AObj.blk.injEq] at q3
      rename_i cs
      subst q3
      obtain ⟨xs, T, r1, r2, r3, r4⟩ := gs.blk k cs q2
      refine ⟨xs, T, by show g.w.heap[β' (k + n)]? = _; rw [hβ2, ← gw]; exact r1, by rw [renL_len]; exact r2, fun x hx => ?_, fun x hx => r4 x (by rw [renL_len] at hx; exact hx)⟩
      have := (r3 x (by rw [renL_len] at hx; exact hx)).into hinto
      simpa [renL_map] using this
  · rcases hcase j _ hj with ⟨q1, q2, q3⟩ | ⟨_, h⟩ | ⟨k, o', rfl, q2, q3⟩
    · show g.w.heap[β' j]? = _
      rw [hβ1 j q1]; exact sm.iter j t pos q3
    · simp [o1] at h
    · cases o' <;> simp only [AObj.ren, reduceCtorEq, AObj.iter.injEq] at q3
      obtain ⟨rfl, rfl⟩ := q3
      show g.w.heap[β' (k + n)]? = _
      rw [hβ2, ← gw]; exact gs.iter k _ _ q2
  · rcases hcase t _ ht with ⟨q1, q2, q3⟩ | ⟨_, h⟩ | ⟨k, o', rfl, q2, q3⟩
    · have hx' : x < (g.ρ t).cnt := by simpa only [g', hρ1 t q1 q2] using hx
      show ∃ y, g.w.cell? ⟨(ρ' t).b, (ρ' t).off + x, none⟩ = some y ∧ g.w.frozen? ⟨(ρ' t).b, (ρ' t).off + x, none⟩ = false
      rw [hρ1 t q1 q2]; exact sm.room t e q3 x hx'
    · simp [o1] at h
    · cases o' <;> simp only [AObj.ren, reduceCtorEq, AObj.room.injEq] at q3
      subst q3
      have hx' : x < (g1.ρ k).cnt := by simpa only [g', hρ2] using hx
      show ∃ y, g.w.cell? ⟨(ρ' (k + n)).b, (ρ' (k + n)).off + x, none⟩ = some y ∧ g.w.frozen? ⟨(ρ' (k + n)).b, (ρ' (k + n)).off + x, none⟩ = false
      rw [hρ2, ← gw]; exact gs.room k _ q2 x hx'
  · rcases hcase j _ hj with ⟨q1, q2, q3⟩ | ⟨rfl, rfl⟩ | ⟨k, o', rfl, q2, rfl⟩ <;> rcases hcase j' _ hj' with ⟨q1', q2', q3'⟩ | ⟨rfl, rfl⟩ | ⟨k', o2', rfl, q2', rfl⟩
    · exact sm.disj j j' oj oj' a q3 q3' (by have := hcj; simp only [hβ1 j q1, hρ1 j q1 q2] at this; exact this) (by have := hcj'; simp only [hβ1 j' q1', hρ1 j' q1' q2'] at this; exact this)
    · exact absurd (hcov1 a hcj').1 (hdis q3 q2 (by have := hcj; simp only [hβ1 j q1, hρ1 j q1 q2] at this; exact this))
    · exact absurd (hb1 a (hcov2 q2' hcj').2) (hdis q3 q2 (by have := hcj; simp only [hβ1 j q1, hρ1 j q1 q2] at this; exact this))
    · exact absurd (hcov1 a hcj).1 (hdis q3' q2' (by have := hcj'; simp only [hβ1 j' q1', hρ1 j' q1' q2'] at this; exact this))
    · rfl
    · exact absurd (hcov2 q2' hcj').2 (hcov1 a hcj).2
    · exact absurd (hb1 a (hcov2 q2 hcj).2) (hdis q3' q2' (by have := hcj'; simp only [hβ1 j' q1', hρ1 j' q1' q2'] at this; exact this))
    · exact absurd (hcov2 q2 hcj).2 (hcov1 a hcj').2
    · have := gs.disj k k' _ _ a q2 q2' (hcov2 q2 hcj).1 (hcov2 q2' hcj').1
      rw [this]
  · rintro ⟨j, o, hj, hc⟩
    rcases hcase j o hj with ⟨q1, q2, q3⟩ | ⟨rfl, rfl⟩ | ⟨k, o', rfl, q2, rfl⟩
    · exact sm.xdis a ha ⟨j, o, q3, by have := hc; simp only [hβ1 j q1, hρ1 j q1 q2] at this; exact this⟩
    · exact sm.xdis a ha ⟨j, _, hi, (hcov1 a hc).1⟩
    · exact sm.xdis a ha ⟨i, _, hi, hb1 a (hcov2 q2 hc).2⟩
  · rcases hcase j _ hj with ⟨q1, q2, q3⟩ | ⟨_, h⟩ | ⟨k, o', rfl, q2, q3⟩
    · obtain ⟨o, r1, r2⟩ := sm.mapo j es q3
      exact ⟨o, by show g.w.heap[β' j]? = _; rw [hβ1 j q1]; exact r1, r2.keep kg⟩
    · simp [o1] at h
    · cases o' <;> simp only [AObj.ren, reduceCtorEq, AObj.mapo.injEq] at q3
      rename_i es0
      subst q3
      obtain ⟨o, r1, en, cl, r2, rst, r3, r4⟩ := gs.mapo k es0 q2
      refine ⟨o, by show g.w.heap[β' (k + n)]? = _; rw [hβ2, ← gw]; exact r1, en, cl, r2, rst, by simpa using r3, fun x hx => ?_⟩
      have := r4 x (by simpa using hx)
      simp only [List.getElem_map]
      exact ⟨this.1.into hinto, this.2.into hinto⟩
  · rcases hcase j _ hj with ⟨q1, q2, q3⟩ | ⟨_, h⟩ | ⟨k, o', rfl, q2, q3⟩
    · obtain ⟨t1, t2, o, oi, r1, r2, r3⟩ := sm.mapr j es vis cur t q3
      refine ⟨Nat.lt_of_lt_of_le t1 kg.len, ?_, o, oi, by show g.w.heap[β' j]? = _; rw [hβ1 j q1]; exact r1, by show g.w.heap[(ρ' j).b]? = _; rw [hρ1 j q1 q2]; exact r2, by show MaprRel _ _ _ _ (β' j) _ _; rw [hβ1 j q1]; exact r3.keep kg⟩
      show (ρ' j).b = β' t
      rw [hρ1 j q1 q2, hβ1 t t1]; exact t2
    · simp [o1] at h
    · cases o' <;> simp only [AObj.ren, reduceCtorEq, AObj.mapr.injEq] at q3
      rename_i es0 vis0 cur0 t0
      obtain ⟨rfl, rfl, rfl, rfl⟩ := q3
      obtain ⟨t1, t2, o, oi, r1, r1', en0, cl0, seen, e1, e2, ⟨en, cl, r2, rst, r3, r4⟩, r5⟩ := gs.mapr k es0 vis cur t0 q2
      refine ⟨hinto.lt t0 t1, ?_, o, oi, by show g.w.heap[β' (k + n)]? = _; rw [hβ2, ← gw]; exact r1, by show g.w.heap[(ρ' (k + n)).b]? = _; rw [hρ2, ← gw]; exact r1', en0, cl0, seen, e1, by show oi = .mapIter (some (β' (k + n))) _ _ _; rw [hβ2]; exact e2, ⟨en, cl, r2, rst, by simpa using r3, fun x hx => ?_⟩, r5⟩
      · show (ρ' (k + n)).b = β' (t0 + n)
        rw [hρ2, hβ2]; exact t2
      · have := r4 x (by simpa using hx)
        simp only [List.getElem_map]
        exact ⟨this.1.into hinto, this.2.into hinto⟩
  · rcases hcase j _ hj with ⟨q1, q2, q3⟩ | ⟨_, h⟩ | ⟨k, o', rfl, q2, q3⟩
    · show φ (β' j) (ρ' j).b (g.w.heap[β' j]?) (g.w.heap[(ρ' j).b]?)
      rw [hβ1 j q1, hρ1 j q1 q2]; exact sm.opq j φ q3
    · simp [o1] at h
    · cases o' <;> simp only [AObj.ren, reduceCtorEq, AObj.opq.injEq] at q3
      subst q3
      show φ (β' (k + n)) (ρ' (k + n)).b (g.w.heap[β' (k + n)]?) (g.w.heap[(ρ' (k + n)).b]?)
      rw [hβ2, hρ2, ← gw]; exact gs.opq k φ q2
  · rcases hcase j _ hj with ⟨q1, q2, q3⟩ | ⟨rfl, h⟩ | ⟨k, o', rfl, q2, q3⟩
    · exact sm.ownKeep kg.toKeep0 hin q3 hj (hβ1 j q1) (by show (ρ' j).bs = _; rw [hρ1 j q1 q2]) fun _ _ => rfl
    · simp only [o1, AObj.own.injEq] at h
      obtain ⟨rfl, rfl⟩ := h
      refine ⟨ents, clock, by show g.w.heap[β' j]? = _; rw [hβ1 j hlt]; exact h1, h2, by rw [hkey]; exact h3, ?_, ?_, fun c v hc => ?_⟩
      · show ¬ (ρ' j).bs (β' j)
        rw [hρ3, hβ1 j hlt]; exact fun q => h4 ((k4 _).2 (.inr q))
      · show P.rel g.w g'.reg (ρ' j).bs (pairsOf ents)
        rw [hρ3]
        refine P.keep ⟨Nat.le_refl _, fun _ _ h _ => h, fun a _ h q => h (hreg a q), fun _ _ _ => rfl, ⟨rfl, rfl⟩, fun _ _ => rfl, fun a h => reg_of hi (.inr ((k4 _).2 (.inr h))), fun a h => hreg2 a (reg_of hi (.inr ((k4 _).2 (.inr h)))), hin⟩ k3
      · cases hc
        obtain ⟨e, he1, he2⟩ := List.mem_map.1 k1
        simp only [Prod.mk.injEq] at he2
        exact ⟨e, he1, he2.1, by rw [he2.2]; exact gr.into hinto⟩
    · obtain ⟨c, rfl, rfl⟩ := ren_own q3.symm
      obtain ⟨en, cl, r1, r2, r3, r4, r5, r6⟩ := gs.own k P c q2
      refine ⟨en, cl, by show g.w.heap[β' (k + n)]? = _; rw [hβ2, ← gw]; exact r1, r2, r3, ?_, ?_, fun c1 v hc => ?_⟩
      · show ¬ (ρ' (k + n)).bs (β' (k + n))
        rw [hρ2, hβ2]; exact r4
      · show P.rel g.w g'.reg (ρ' (k + n)).bs (pairsOf en)
        rw [hρ2, ← gw]
        refine P.keep ⟨Nat.le_refl _, fun _ _ h _ => h, fun a _ h q => h (hg1r a (hreg a q)), fun _ _ _ => rfl, ⟨rfl, rfl⟩, fun _ _ => rfl, fun a h => reg_of q2 (.inr h), fun a h => hreg2 a (reg_of hi (hb1 a ((gm a).1 ⟨k, _, q2, .inr h⟩))), fun a h => by rw [gw]; exact hin a h⟩ r5
      · cases c with
        | none => simp at hc
        | some c0 =>
          obtain ⟨c2, v1⟩ := c0
          simp only [Option.map_some, Option.some.injEq, Prod.mk.injEq] at hc
          obtain ⟨rfl, rfl⟩ := hc
          have q := r6 c2 v1 rfl
          cases v1 with
          | none => exact q
          | some av =>
            obtain ⟨e, z1, z2, z3⟩ := q
            exact ⟨e, z1, z2, z3.into hinto⟩
  · rcases hcase j _ hj with ⟨q1, q2, q3⟩ | ⟨_, h⟩ | ⟨k, o', rfl, q2, q3⟩
    · have q := (sm.arr j z els q3).keep0 kg.toKeep0 fun _ => rfl
      show ArrRel _ z els (β' j)
      rw [hβ1 j q1]; exact q
    · simp [o1] at h
    · cases o' <;> simp only [AObj.ren, reduceCtorEq, AObj.arr.injEq] at q3
      rename_i z0 els0
      obtain ⟨rfl, rfl⟩ := q3
      intro hne
      obtain ⟨xs, T, r1, r2, r3⟩ := gs.arr k z els0 q2 (by simpa [renLL_map] using hne)
      refine ⟨xs, T, by show g.w.heap[β' (k + n)]? = _; rw [hβ2, ← gw]; exact r1, fun r hr => ?_, fun p q r a hp hq => ?_⟩
      · rw [renLL_map] at hr
        obtain ⟨r0, hr0, rfl⟩ := List.mem_map.1 hr
        rw [renL_len]; exact r2 r0 hr0
      · rw [renLL_map, List.getElem?_map] at hp
        obtain ⟨r0, hp0, rfl⟩ := Option.map_eq_some_iff.1 hp
        rw [renL_map, List.getElem?_map] at hq
        obtain ⟨a0, hq0, rfl⟩ := Option.map_eq_some_iff.1 hq
        obtain ⟨q1, q2, q3⟩ := r3 p q r0 a0 hp0 hq0
        exact ⟨q1, q2.into hinto, q3⟩

/-! ### And closed -/
def killAll (M : List AObj) : List Nat → List AObj
  | [] => M
  | i :: π => killAll (M.set i .dead) π
theorem killAll_len : ∀ {π : List Nat} {M : List AObj}, (killAll M π).length = M.length
  | [], _ => rfl
  | i :: π, M => by rw [killAll, killAll_len]; simp
theorem killAll_other : ∀ {π : List Nat} {M : List AObj} {j : Nat}, j ∉ π → (killAll M π)[j]? = M[j]?
  | [], _, _, _ => rfl
  | i :: π, M, j, h => by
    simp only [List.mem_cons, not_or] at h
    rw [killAll, killAll_other h.2, List.getElem?_set_ne (Ne.symm h.1)]
theorem killAll_dead : ∀ {π : List Nat} {M : List AObj} {j : Nat} {o : AObj}, j ∈ π → (killAll M π)[j]? = some o → o = .dead
  | [], _, _, _, h, _ => by cases h
  | i :: π, M, j, o, h, q => by
    rw [killAll] at q
    by_cases hj : j ∈ π
    · exact killAll_dead hj q
    · have : j = i := by
        cases h with
        | head => rfl
        | tail _ h => exact absurd h hj
      subst this
      rw [killAll_other hj, List.getElem?_set_self'] at q
      cases hM : M[j]? <;> simp [hM] at q
      exact q.symm

def AObj.isRoom : AObj → Bool
  | .room _ => true
  | _ => false
theorem covers_whole {o : AObj} (h : o.isRoom = false) {b : Nat} {r : Room} {a : Addr} (hc : o.covers b r a) : o.whole b r a.block := by
  cases o <;> first | exact hc | exact hc.elim | (simp [AObj.isRoom] at h)

theorem view_close {M M' : List AObj} {i : Nat} {P0 P1 : Own} {kv : Value} {N : List AObj} {V av : AV} (π : List Nat) (hi : M[i]? = some (.own P1 (some (kv, some av)))) (hn : π.Nodup) (hl : π.length = N.length) (hip : i ∉ π)
    (hM : ∀ (k j : Nat), π[k]? = some j → M[j]? = (N[k]?).map (AObj.ren (into π N.length M.length))) (hav : av = V.ren (into π N.length M.length)) (hN : ∀ o ∈ N, o.isRoom = false) (hkey : P1.key = P0.key)
    (hrel : ∀ w C bs b1 b2 l u, P1.rel w C b2 l → (l.map (·.1)).Nodup → (kv, u) ∈ l → Pk N V w C b1 u → (∀ b, bs b ↔ b1 b ∨ b2 b) → (∀ b, b1 b → ¬ b2 b) → P0.rel w C bs l)
    (hM' : (killAll M π).set i (.own P0 none) = M') : View M M' := by
  rintro g rfl sm
  obtain ⟨s, e1, e2, ss, ⟨sx, sb⟩, srl, _⟩ := frame_post π hn hl hM rfl sm
  generalize hσ : into π N.length g.M.length = σ at *
  obtain ⟨ents, clock, h1, h2, h3, h4, h5, h6⟩ := sm.own i P1 _ hi
  obtain ⟨e, he1, he2, he3⟩ := h6 kv (some av) rfl
  have hnd : ((pairsOf ents).map (·.1)).Nodup := by
    have := h2.2.2
    simpa [pairsOf, List.map_map, Function.comp_def] using this
  have hmem : (kv, e.val) ∈ pairsOf ents := List.mem_map.2 ⟨e, he1, by rw [he2]⟩
  have hlt : i < g.M.length := lt_of_some hi
  have hπ : ∀ k, k < N.length → π[k]? = some (σ k) := fun k hk => by
    have hk' : k < π.length := by omega
    rw [← hσ]
    simp only [into, hk, if_true]
    rw [List.getElem?_eq_getElem hk', List.getD_eq_getElem?_getD, List.getElem?_eq_getElem hk']; rfl
  have hget : ∀ {k : Nat} {o : AObj}, N[k]? = some o → g.M[σ k]? = some (o.ren σ) := fun {k o} hk => by rw [hM k _ (hπ k (lt_of_some hk)), hk]; rfl
  have hcase : ∀ j, j ∈ π → ∃ (k : Nat) (o : AObj), N[k]? = some o ∧ σ k = j := fun j hj => by
    obtain ⟨k, hk, rfl⟩ := List.mem_iff_getElem.1 hj
    have hk' : k < N.length := by omega
    refine ⟨k, N[k], List.getElem?_eq_getElem hk', ?_⟩
    have := hπ k hk'
    rw [List.getElem?_eq_getElem hk] at this
    exact (Option.some.inj this).symm
  have hsβ : ∀ k, s.β k = g.β (σ k) := fun k => (sb k).1
  have hsρ : ∀ k, s.ρ k = g.ρ (σ k) := fun k => (sb k).2
  let b1 : Nat → Prop := fun b => ∃ (k : Nat) (o : AObj), N[k]? = some o ∧ o.whole (g.β (σ k)) (g.ρ (σ k)) b
  have hb1 : ∀ {k : Nat} {o : AObj} {a : Addr}, N[k]? = some o → (o.ren σ).covers (g.β (σ k)) (g.ρ (σ k)) a → b1 a.block := fun {k o a} hk hc =>
    ⟨k, o, hk, covers_whole (hN o (List.mem_of_getElem? hk)) (ren_covers.1 hc)⟩
  have hb1r : ∀ a : Addr, b1 a.block → ∃ (k : Nat) (o : AObj), N[k]? = some o ∧ (o.ren σ).covers (g.β (σ k)) (g.ρ (σ k)) a := fun a ⟨k, o, hk, hw⟩ => ⟨k, o, hk, ren_covers.2 (hw.covers a.off)⟩
  have hreg1 : ∀ a : Addr, b1 a.block → g.reg a := fun a h => by
    obtain ⟨k, o, hk, hc⟩ := hb1r a h
    exact reg_of (hget hk) hc
  have hdis : ∀ b, b1 b → ¬ (AObj.own P1 (some (kv, some av))).whole (g.β i) (g.ρ i) b := fun b h q => by
    obtain ⟨k, o, hk, hc⟩ := hb1r ⟨b, 0, none⟩ h
    have := sm.disj (σ k) i _ _ ⟨b, 0, none⟩ (hget hk) hi hc q.covers
    exact hip (this ▸ List.mem_of_getElem? (hπ k (lt_of_some hk)))
  have hpk : Pk N V g.w g.reg b1 e.val := by
    refine ⟨s, e1, e2, ss, ?_, fun a => ?_, fun a => ?_⟩
    · have := srl (l := [V]) (vs := [e.val]) (by
        simp only [renL]
        rw [← hav]
        exact .cons he3 .nil)
      cases this with
      | cons q _ => exact q
    · constructor
      · rintro ⟨k, o, hk, hc⟩
        rw [e1] at hk
        rw [hsβ, hsρ] at hc
        exact hb1 hk (ren_covers.2 hc)
      · rintro h
        obtain ⟨k, o, hk, hc⟩ := hb1r a h
        exact ⟨k, o, by rw [e1]; exact hk, by rw [hsβ, hsρ]; exact ren_covers.1 hc⟩
    · rw [sx]
      constructor
      · rintro (h | ⟨j, o, hj, ho, hc⟩)
        · refine ⟨.inl h, fun q => ?_⟩
          obtain ⟨k, o, hk, hc⟩ := hb1r a q
          exact sm.xdis a h ⟨_, _, hget hk, hc⟩
        · refine ⟨reg_of ho hc, fun q => ?_⟩
          obtain ⟨k, o', hk, hc'⟩ := hb1r a q
          have := sm.disj j (σ k) o _ a ho (hget hk) hc hc'
          exact hj (this ▸ List.mem_of_getElem? (hπ k (lt_of_some hk)))
      · rintro ⟨h | ⟨j, o, ho, hc⟩, hb⟩
        · exact .inl h
        · refine .inr ⟨j, o, fun hj => ?_, ho, hc⟩
          obtain ⟨k, o', hk, rfl⟩ := hcase j hj
          rw [hget hk] at ho
          cases ho
          exact hb (hb1 hk hc)
  let bs : Nat → Prop := fun b => b1 b ∨ (g.ρ i).bs b
  have hP0 : P0.rel g.w g.reg bs (pairsOf ents) := hrel g.w g.reg bs b1 (g.ρ i).bs (pairsOf ents) e.val h5 hnd hmem hpk (fun _ => Iff.rfl) fun b h q => hdis b h (.inr q)
  let ρ' : Nat → Room := upd g.ρ i ⟨(g.ρ i).b, (g.ρ i).off, (g.ρ i).cnt, bs⟩
  let g' : G := ⟨M', g.β, ρ', g.w, g.X⟩
  have hlen : M'.length = g.M.length := by rw [← hM']; simp [killAll_len]
  have hc' : ∀ j o, M'[j]? = some o → o = .dead ∨ (j ≠ i ∧ j ∉ π ∧ g.M[j]? = some o) ∨ (j = i ∧ o = .own P0 none) := fun j o hj => by
    rw [← hM'] at hj
    rcases put_get hj with ⟨q1, q2⟩ | ⟨q1, q2⟩
    · by_cases hp : j ∈ π
      · exact .inl (killAll_dead hp q2)
      · exact .inr (.inl ⟨q1, hp, by rw [killAll_other hp] at q2; exact q2⟩)
    · exact .inr (.inr ⟨q1, q2⟩)
  have hgi : M'[i]? = some (.own P0 none) := by rw [← hM', List.getElem?_set_self (by rw [killAll_len]; exact hlt)]
  have hρ1 : ∀ j, j ≠ i → ρ' j = g.ρ j := fun j hj => upd_other _ _ hj
  have hρ2 : (ρ' i).bs = bs := by simp only [ρ', upd_same]
  have hcovi : ∀ a, (AObj.own P0 none).covers (g'.β i) (g'.ρ i) a → b1 a.block ∨ (AObj.own P1 (some (kv, some av))).covers (g.β i) (g.ρ i) a := fun a h => by
    rcases h with h | h
    · exact .inr (.inl h)
    · have h' : bs a.block := by rw [← hρ2]; exact h
      rcases h' with h' | h'
      · exact .inl h'
      · exact .inr (.inr h')
  have hreg : ∀ a, g'.reg a → g.reg a := by
    rintro a (h | ⟨j, o, hj, hc⟩)
    · exact .inl h
    · rcases hc' j o hj with rfl | ⟨q1, _, q3⟩ | ⟨rfl, rfl⟩
      · exact hc.elim
      · exact reg_of q3 (by have := hc; simp only [g', hρ1 j q1] at this; exact this)
      · rcases hcovi a hc with h | h
        · exact hreg1 a h
        · exact reg_of hi h
  have kg : Keep g g' := by
    refine ⟨⟨by show g.M.length ≤ M'.length; omega, fun _ _ => rfl, fun t ht e' he' => ?_, Nat.le_refl _, fun _ _ h _ => h, fun a _ h q => h (hreg a q), fun _ _ _ => rfl, ⟨rfl, rfl⟩⟩, fun _ h => h, fun _ _ _ => ⟨rfl, rfl⟩, fun _ _ _ => rfl⟩
    rcases hc' t _ he' with h | ⟨q1, _, q3⟩ | ⟨_, h⟩
    · cases h
    · exact ⟨e', q3, Nat.le_refl _, fun _ => hρ1 t q1⟩
    · cases h
  have hin : ∀ a, g'.reg a → a.block < g'.w.heap.size := fun a h => sm.inb a (hreg a h)
  refine ⟨g.β, ρ', ?_, kg⟩
  refine ⟨sm.fct.keep kg, fun j cells hj => ?_, fun j t pos hj => ?_, fun t e ht x hx => ?_, fun j j' oj oj' a hj hj' hcj hcj' => ?_, hin, fun a ha => ?_, fun j es hj => ?_, fun j es vis cur t hj => ?_, fun j φ hj => ?_, fun j P cur hj => ?_, fun j z els hj => ?_⟩
  · rcases hc' j _ hj with h | ⟨q1, _, q3⟩ | ⟨_, h⟩
    · cases h
    · obtain ⟨xs, T, r1, r2, r3, r4⟩ := sm.blk j cells q3
      exact ⟨xs, T, r1, r2, fun x hx => (r3 x hx).keep kg, r4⟩
    · cases h
  · rcases hc' j _ hj with h | ⟨q1, _, q3⟩ | ⟨_, h⟩
    · cases h
    · exact sm.iter j t pos q3
    · cases h
  · rcases hc' t _ ht with h | ⟨q1, _, q3⟩ | ⟨_, h⟩
    · cases h
    · have hx' : x < (g.ρ t).cnt := by simpa only [g', hρ1 t q1] using hx
      show ∃ y, g.w.cell? ⟨(ρ' t).b, (ρ' t).off + x, none⟩ = some y ∧ g.w.frozen? ⟨(ρ' t).b, (ρ' t).off + x, none⟩ = false
      rw [hρ1 t q1]; exact sm.room t e q3 x hx'
    · cases h
  · have hno : ∀ j o a, j ≠ i → j ∉ π → g.M[j]? = some o → o.covers (g.β j) (g.ρ j) a → ¬ b1 a.block := fun j o a _ hp hj hc q => by
      obtain ⟨k, o', hk, hq⟩ := hb1r a q
      have := sm.disj j (σ k) o _ a hj (hget hk) hc hq
      exact hp (this ▸ List.mem_of_getElem? (hπ k (lt_of_some hk)))
    rcases hc' j _ hj with rfl | ⟨q1, q2, q3⟩ | ⟨rfl, rfl⟩ <;> rcases hc' j' _ hj' with rfl | ⟨q1', q2', q3'⟩ | ⟨rfl, rfl⟩
    · exact hcj.elim
    · exact hcj.elim
    · exact hcj.elim
    · exact hcj'.elim
    · exact sm.disj j j' oj oj' a q3 q3' (by have := hcj; simp only [hρ1 j q1] at this; exact this) (by have := hcj'; simp only [hρ1 j' q1'] at this; exact this)
    · exfalso
      have hcj2 : oj.covers (g.β j) (g.ρ j) a := by have := hcj; simp only [hρ1 j q1] at this; exact this
      rcases hcovi a hcj' with h | h
      · exact hno j oj a q1 q2 q3 hcj2 h
      · exact q1 (sm.disj j _ oj _ a q3 hi hcj2 h)
    · exact hcj'.elim
    · exfalso
      have hcj2 : oj'.covers (g.β j') (g.ρ j') a := by have := hcj'; simp only [hρ1 j' q1'] at this; exact this
      rcases hcovi a hcj with h | h
      · exact hno j' oj' a q1' q2' q3' hcj2 h
      · exact q1' (sm.disj j' _ oj' _ a q3' hi hcj2 h)
    · rfl
  · rintro ⟨j, o, hj, hc⟩
    rcases hc' j o hj with rfl | ⟨q1, _, q3⟩ | ⟨rfl, rfl⟩
    · exact hc.elim
    · exact sm.xdis a ha ⟨j, o, q3, by have := hc; simp only [hρ1 j q1] at this; exact this⟩
    · rcases hcovi a hc with h | h
      · obtain ⟨k, o, hk, hq⟩ := hb1r a h
        exact sm.xdis a ha ⟨_, _, hget hk, hq⟩
      · exact sm.xdis a ha ⟨_, _, hi, h⟩
  · rcases hc' j _ hj with h | ⟨q1, _, q3⟩ | ⟨_, h⟩
    · cases h
    · obtain ⟨o, r1, r2⟩ := sm.mapo j es q3
      exact ⟨o, r1, r2.keep kg⟩
    · cases h
  · rcases hc' j _ hj with h | ⟨q1, _, q3⟩ | ⟨_, h⟩
    · cases h
    · obtain ⟨t1, t2, o, oi, r1, r2, r3⟩ := sm.mapr j es vis cur t q3
      refine ⟨by show t < M'.length; omega, ?_, o, oi, r1, by show g.w.heap[(ρ' j).b]? = _; rw [hρ1 j q1]; exact r2, r3.keep kg⟩
      show (ρ' j).b = g.β t
      rw [hρ1 j q1]; exact t2
    · cases h
  · rcases hc' j _ hj with h | ⟨q1, _, q3⟩ | ⟨_, h⟩
    · cases h
    · show φ (g.β j) (ρ' j).b (g.w.heap[g.β j]?) (g.w.heap[(ρ' j).b]?)
      rw [hρ1 j q1]; exact sm.opq j φ q3
    · cases h
  · rcases hc' j _ hj with h | ⟨q1, _, q3⟩ | ⟨rfl, h⟩
    · cases h
    · exact sm.ownKeep kg.toKeep0 hin q3 hj rfl (by show (ρ' j).bs = _; rw [hρ1 j q1]) fun _ _ => rfl
    · simp only [AObj.own.injEq] at h
      obtain ⟨rfl, rfl⟩ := h
      refine ⟨ents, clock, h1, h2, by rw [← hkey]; exact h3, ?_, ?_, fun c v hc => by cases hc⟩
      · show ¬ (ρ' j).bs (g.β j)
        rw [hρ2]
        rintro (q | q)
        · exact hdis _ q (.inl rfl)
        · exact h4 q
      · show P.rel g.w g'.reg (ρ' j).bs (pairsOf ents)
        rw [hρ2]
        refine P.keep ⟨Nat.le_refl _, fun _ _ h _ => h, fun a _ h q => h (hreg a q), fun _ _ _ => rfl, ⟨rfl, rfl⟩, fun _ _ => rfl, fun a h => ?_, fun a h => reg_of (g := g') hj (.inr (by rw [hρ2]; exact h)), hin⟩ hP0
        rcases h with h | h
        · exact hreg1 a h
        · exact reg_of hi (.inr h)
  · rcases hc' j _ hj with h | ⟨q1, _, q3⟩ | ⟨_, h⟩
    · cases h
    · exact (sm.arr j z els q3).keep0 kg.toKeep0 fun _ => rfl
    · cases h
end Go.Ab

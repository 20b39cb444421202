/- Maps whose keys are structs: the operations over rows of values, a range over such a map. No condition: over any program. -/
import Derived.Test.YtjjjeolcapebbaaGreatDoorM13
import Derived.Test.YtjjjeolcapebbaaGreatDoorAb9
section
namespace Go.Ab
variable {P : Program} {ty : TyTab} {Γ : Gam} {n B : Nat} {Q : Exit → St → Prop} {σ : St}

/-! ### The operations over rows of values -/
section
variable {K V : Type} {kt : TypeId} {eq : K → K → Bool} {enc : K → List AV} {dec : List AV → K} {vE : V → AV} {k : List AV}
end

/-! ### A step of a range -/
/-- The value of a key of a map. -/
def kval : AV → Option Value
  | .lit k => some k
  | .agg cells => if cells.all isLit = true then some (keyVal cells) else none
  | _ => none
theorem R.kvalEq {g : G} {a : AV} {v k : Value} (h : R g a v) (e : Ab.kval a = some k) : v = k := by
  unfold Ab.kval at e
  split at e
  · cases e; exact h.lit_inv
  · split at e
    · rename_i hl; cases e; exact h.keyVal hl
    · cases e
  · cases e
theorem R.of_kval {g : G} {a : AV} {k : Value} (e : Ab.kval a = some k) : R g a k := by
  unfold Ab.kval at e
  split at e
  · cases e; exact .lit _
  · split at e
    · rename_i hl; cases e; exact R.ofKey hl
    · cases e
  · cases e
theorem next_mapK {g : G} (sm : Sim g) {i t : Nat} {es : List (AV × AV)} {vis : List Value} {cur : Option Value} (hM : g.M[i]? = some (.mapr es vis cur t)) (hk : ∀ p ∈ es, ∃ k, kval p.1 = some k) (ty : TypeId) {a : Value} (ha : R g (.it t) a) :
    ((∀ c k v, (c, v) ∈ es → kval c = some k → k ∈ vis) ∧ (Instr.next a false ty).run P g.w = .ok (.tuple #[.bool false]) g.w) ∨
    ∃ c k v u w', kval c = some k ∧ k ∉ vis ∧ (c, v) ∈ es ∧ (Instr.next a false ty).run P g.w = .ok (.tuple #[.bool true, k, u]) w' ∧
      Sim (g.put i (.mapr es (k :: vis) (some k) t) (g.ρ i) w') ∧ Keep g (g.put i (.mapr es (k :: vis) (some k) t) (g.ρ i) w') := by
  cases ha with
  | it _ ht =>
  obtain ⟨t1, t2, o1, oi, hb, hbi, ents, clock, seen, rfl, rfl, ⟨ents', clock', hee, hst, hl, hes⟩, hseen, hcur⟩ := sm.mapr i es vis cur t hM
  cases hee
  rw [← t2]
  have hlt := whole_lt sm hM (.inl rfl)
  have hlti := whole_lt sm hM (.inr rfl)
  have hne : g.β i ≠ (g.ρ i).b := fun h => by rw [h, hbi] at hb; cases hb
  have hkeys : ∀ (j : Nat) (h : j < es.length), kval es[j].1 = some (ents.toList.getD j default).key := fun j hj => by
    obtain ⟨k, hk'⟩ := hk es[j] (List.getElem_mem hj)
    rw [hk', (hes j hj).1.kvalEq hk']
  rcases run_next_at (P := P) g.w ty (g.ρ i).b (g.β i) clock clock seen ents clock hbi hb hst.1 (Nat.le_refl _) with ⟨h1, h2⟩ | ⟨e, h1, w1, h2, h3⟩
  · left
    refine ⟨fun c k v hkv hck => ?_, h2⟩
    obtain ⟨j, hj, hjj⟩ := List.mem_iff_getElem.1 hkv
    have q2 := hkeys j hj
    rw [hjj] at q2
    have q3 := Option.some.inj (hck.symm.trans q2)
    have hj' : j < ents.toList.length := by omega
    have hge : ents.toList.getD j default = ents.toList[j] := by simp [List.getD_eq_getElem?_getD, List.getElem?_eq_getElem hj']
    rw [hge] at q3
    rw [q3]
    refine (hseen _ (List.getElem_mem hj')).1 ?_
    have h0 : leftOf ents seen = #[] := Array.eq_empty_of_size_eq_zero h1
    unfold leftOf at h0
    rw [Array.filter_eq_empty_iff] at h0
    have := h0 ents.toList[j] (by simp)
    simpa using this
  · right
    obtain ⟨m1, m2⟩ : e ∈ ents.toList ∧ seen.contains e.born = false := by
      unfold leftOf at h1
      simpa using h1
    have hnv : e.key ∉ vis := fun h => by have := (hseen e m1).2 h; rw [m2] at this; cases this
    obtain ⟨j, hj, hje⟩ := List.mem_iff_getElem.1 m1
    have q2 := hkeys j (by omega)
    have hge : ents.toList.getD j default = e := by simp [List.getD_eq_getElem?_getD, List.getElem?_eq_getElem hj, hje]
    rw [hge] at q2
    have hh : w1.heap = g.w.heap := by rcases h2 with rfl | rfl <;> rfl
    have hW : ∀ q, q ≠ (g.ρ i).b → (ChangeMaps.setBlock w1 (g.ρ i).b (.mapIter (some (g.β i)) clock (seen.push e.born) clock)).heap[q]? = g.w.heap[q]? := fun q hq => by
      simp only [ChangeMaps.setBlock, hh]
      exact Array.getElem?_setIfInBounds_ne (Ne.symm hq)
    have hWi : (ChangeMaps.setBlock w1 (g.ρ i).b (.mapIter (some (g.β i)) clock (seen.push e.born) clock)).heap[(g.ρ i).b]? = some (.mapIter (some (g.β i)) clock (seen.push e.born) clock) := by
      simp [ChangeMaps.setBlock, hh, hlti]
    have hWs : (ChangeMaps.setBlock w1 (g.ρ i).b (.mapIter (some (g.β i)) clock (seen.push e.born) clock)).heap.size = g.w.heap.size := by
      simp [ChangeMaps.setBlock, hh]
    have hio : SameIO g.w (ChangeMaps.setBlock w1 (g.ρ i).b (.mapIter (some (g.β i)) clock (seen.push e.born) clock)) := by rcases h2 with rfl | rfl <;> exact ⟨rfl, rfl⟩
    have hin : Within g i (.mapr es (e.key :: vis) (some e.key) t) (g.ρ i) := fun a ha => .inl ⟨_, hM, ha⟩
    have hoth : ∀ q, q < g.w.heap.size → ¬ (AObj.mapr es vis cur t).whole (g.β i) (g.ρ i) q → (ChangeMaps.setBlock w1 (g.ρ i).b (.mapIter (some (g.β i)) clock (seen.push e.born) clock)).heap[q]? = g.w.heap[q]? :=
      fun q _ hq => hW q fun h => hq (.inr h)
    have hjn : ∀ x ∈ ents.toList, x.key = e.key → x = e := fun x hx hxe => nodup_inj hst.2.2 hx m1 hxe
    have hjb : ∀ x ∈ ents.toList, x.born = e.born → x = e := fun x hx hxe => nodup_inj hst.2.1 hx m1 hxe
    refine ⟨es[j].1, e.key, es[j].2, e.val, _, q2, hnv, List.getElem_mem (by omega), h3, sim_turn (q := .map ents clock) (qi := .mapIter (some (g.β i)) clock (seen.push e.born) clock) sm hM (fun _ h => h) hin (Nat.le_of_eq hWs.symm) hoth hio (by rw [hWs]; exact hlti) t1 t2
      ((hW _ hne).trans hb) hWi ⟨ents, clock, seen.push e.born, rfl, rfl, ⟨ents, clock, rfl, hst, hl, hes⟩, fun x hx => ?_, fun k' hk' => ?_⟩, keep_turn sm hM (fun _ h => h) hin (Nat.le_of_eq hWs.symm) hoth hio⟩
    · simp only [Array.contains_push, Bool.or_eq_true, beq_iff_eq]
      constructor
      · rintro (h | h)
        · exact List.mem_cons_of_mem _ ((hseen x hx).1 h)
        · rw [hjb x hx h]; simp
      · intro h
        rcases List.mem_cons.1 h with h | h
        · exact .inr (by rw [hjn x hx h])
        · exact .inl ((hseen x hx).2 h)
    · cases hk'
      exact ⟨e.born, by simp, fun x hx hxe => by rw [hjn x hx hxe]⟩

/-- A region that begins with a step of a range over a map of whatever keys. -/
theorem AWp.regNextK (hty : TyOk P ty) (hΓ : GamOk P Γ) {id t u i d1 : Nat} {ops : Array Oper} {o1 : Oper} {rest : List Oper} (ho : ops.toList = o1 :: rest) (ho1 : o1.op = .next (.tmp t) false) (hg : o1.guard = none)
    (hd1 : o1.dst = some d1) {keep dead : List Nat} (hd : dstsOk ops n ops.toList [] = true) (hn : noTags σ.A = true) {es : List (AV × AV)} {vis : List Value} {cur : Option Value}
    (he : ent σ.A t = some (none, .it u)) (hM : σ.M[i]? = some (.mapr es vis cur u)) (hk : ∀ p ∈ es, ∃ k, kval p.1 = some k)
    (h0 : (∀ c k v, (c, v) ∈ es → kval c = some k → k ∈ vis) → ∃ σ', regE keep dead ops.toList σ σ' (runR ty Γ ops rest (⟨d1, none, .tup [.lit (.bool false)]⟩ :: σ.A) σ.M) ∧ Q .normal σ')
    (h1 : ∀ c k v x, kval c = some k → k ∉ vis → (c, v) ∈ es → ∃ σ', regE keep dead ops.toList σ σ' (runR ty Γ ops rest (⟨d1, none, .tup [.lit (.bool true), c, .lit x]⟩ :: σ.A) (σ.M.set i (.mapr es (k :: vis) (some k) u))) ∧ Q .normal σ') :
    AWp P n B (.region id ops false) Q σ := by
  obtain ⟨A, M⟩ := σ
  intro g0 g a at_
  have hgM : g.M = M := at_.mem
  have htags : tagsIn A [] := fun e he τ hτ => by
    have := List.all_eq_true.1 hn e he
    simp [hτ] at this
  have hd' := hd
  rw [ho] at hd'
  unfold dstsOk at hd'
  rw [hd1] at hd'
  simp only [Bool.and_eq_true] at hd'
  obtain ⟨hda, hdb⟩ := hd'
  have htag : tagOf ops o1 = some none := by unfold tagOf; rw [hg]
  rw [htag] at hdb
  have hdl : d1 < a.tmps.size := by
    rw [at_.size]
    simpa using hda
  have tail : ∀ (g' : G) (v : Value) (av : AV) (M2 : List AObj), Sim g' → Keep g g' → g'.X = g.X → g'.M = M2 → R g' av v →
      (∃ σ', regE keep dead ops.toList ⟨A, M⟩ σ' (runR ty Γ ops rest (⟨d1, none, av⟩ :: A) M2) ∧ Q .normal σ') →
      wpList P ops (fun e a' w' => ∃ σ' g', Q e σ' ∧ g'.w = w' ∧ At n B g0 g' a' σ') rest (a.put (some d1) v) g'.w := by
    rintro g' v av M2 s' k hx hM2 hr ⟨⟨A', M'⟩, q, hQ⟩
    unfold regE at q
    split at q
    · rename_i recs A1 M1 hrun
      obtain ⟨q1, q2, q3⟩ := q
      simp only at q2 q3
      subst q2
      subst q3
      have hA' : EnvRel g' (⟨d1, none, av⟩ :: A) (a.put (some d1) v).tmps :=
        (EnvRel.keep k at_.env).put (dst := some d1) (tag := none) (fun d hd => by cases hd; exact ⟨hdl, free_of htags (by simp), fun τ hτ => by cases hτ⟩) hr
      refine run_text hty hΓ n rest hrun q1 hdb (fun e he τ hτ => ?_) (by rw [size_put]; exact at_.size) hM2 s' hA' fun a' g'' r1 r2 r3 rx r4 r5 r6 => ?_
      · rcases List.mem_cons.1 he with rfl | he
        · cases hτ
        · exact htags e he τ hτ
      · refine ⟨_, g'', hQ, rfl, at_.base, (rx.trans hx).trans at_.ax, (at_.keep.trans k).trans r5, r3, r4, keepE_rel r6 ?_ keep, r1, by rw [r2, defers_put]; exact at_.defers⟩
        rw [without_app]
        refine without_rel fun t' tag av' he' => ?_
        rw [without_ent] at he'
        split at he'
        · cases he'
        · rename_i hc
          have hdst : dstL ops.toList = d1 :: dstL rest := by rw [ho, dstL, hd1]
          rw [hdst] at hc
          simp only [List.contains_cons, Bool.or_eq_true, beq_iff_eq, not_or, Bool.not_eq_true] at hc
          refine r6 t' tag av' ?_
          rw [run_ent hrun t' (by simpa using hc.2), ent, if_neg (fun h => hc.1 h.symm)]
          exact he'
    · exact q.elim
  refine wp_region_list ?_
  rw [ho]
  unfold wpList
  rw [wanted_iff htag]
  simp only [tagB, if_true]
  left
  have hx : R g (.it u) (a.tmps.getD t undef) := at_.env t none _ he
  have hDoes : ∀ {v : Value} {w' : World}, (Instr.next (a.tmps.getD t undef) false o1.type).run P g.w = .ok v w' → Does P o1 a g.w (fun v' w'' => v' = v ∧ w'' = w') := by
    intro v w' hrun
    obtain ⟨dst, op, type, pos, after, guard⟩ := o1
    simp only at ho1 hrun
    subst ho1
    unfold Does
    show After P _ ((do pure (Next.value (← Instr.next (a.tmps.getD t undef) false type))).run P g.w)
    rw [Sem.run_bind, hrun]
    exact ⟨rfl, rfl⟩
  rcases next_mapK (P := P) at_.sim (by rw [hgM]; exact hM) hk o1.type hx with ⟨q1, q2⟩ | ⟨c, k, v, x, w', q0, q1, q2, q3, q4, q5⟩
  · refine (hDoes q2).wp fun v' w'' hv => ?_
    obtain ⟨rfl, rfl⟩ := hv
    rw [hd1]
    refine tail g _ (.tup [.lit (.bool false)]) M at_.sim (Keep.refl g) rfl hgM (.tup _ _ rfl fun j hj => ?_) (h0 q1)
    match j, hj with
    | 0, _ => exact .lit _
  · refine (hDoes q3).wp fun v' w'' hv => ?_
    obtain ⟨rfl, rfl⟩ := hv
    rw [hd1]
    refine tail _ _ (.tup [.lit (.bool true), c, .lit x]) _ q4 q5 rfl (by show g.M.set i _ = _; rw [hgM]) (.tup _ _ rfl fun j hj => ?_) (h1 c k v x q0 q1 q2)
    match j, hj with
    | 0, _ => exact .lit _
    | 1, _ => exact R.of_kval q0
    | 2, _ => exact .lit _

/-! ### A range over a map of whatever keys -/
section
variable {K V X : Type} {kE : K → AV} {kv : K → Value} {vE : V → AV}
theorem nodup_le {α : Type} : ∀ {l m : List α}, l.Nodup → (∀ x ∈ l, x ∈ m) → l.length ≤ m.length
  | [], _, _, _ => Nat.zero_le _
  | a :: l, m, h, hs => by
    rw [List.nodup_cons] at h
    obtain ⟨m1, m2, rfl⟩ := List.append_of_mem (hs a (List.mem_cons_self))
    have := nodup_le (l := l) (m := m1 ++ m2) h.2 fun x hx => by
      have hx' := hs x (List.mem_cons_of_mem _ hx)
      rcases List.mem_append.1 hx' with q | q
      · exact List.mem_append.2 (.inl q)
      · rcases List.mem_cons.1 q with rfl | q
        · exact absurd hx h.1
        · exact List.mem_append.2 (.inr q)
    simp only [List.length_append, List.length_cons] at this ⊢
    omega
end
end Go.Ab
end
section
namespace Go.Ab

/-- What a value owns: objects N of its own, and how it reads (V), in the blocks bs. -/
def Pk (N : List AObj) (V : AV) (w : World) (C : Addr → Prop) (bs : Nat → Prop) (v : Value) : Prop :=
  ∃ g : G, g.M = N ∧ g.w = w ∧ Sim g ∧ R g V v ∧ (∀ a, g.regM a ↔ bs a.block) ∧ ∀ a, g.X a ↔ C a ∧ ¬ bs a.block

theorem Pk.keep {N : List AObj} {V : AV} {w : World} {C : Addr → Prop} {w' : World} {C' : Addr → Prop} {bs : Nat → Prop} {v : Value} (k : HK w C w' C' bs) (h : Pk N V w C bs v) : Pk N V w' C' bs v := by
  obtain ⟨g, rfl, rfl, s, r, h1, h2⟩ := h
  have hreg : ∀ a, g.reg a ↔ C a := fun a => by
    constructor
    · rintro (h | h)
      · exact ((h2 a).1 h).1
      · exact k.inC a ((h1 a).1 h)
    · intro h
      by_cases hb : bs a.block
      · exact .inr ((h1 a).2 hb)
      · exact .inl ((h2 a).2 ⟨h, hb⟩)
  let g' : G := ⟨g.M, g.β, g.ρ, w', fun a => C' a ∧ ¬ bs a.block⟩
  have hreg' : ∀ a, g'.reg a ↔ C' a := fun a => by
    constructor
    · rintro (h | h)
      · exact h.1
      · exact k.inC' a ((h1 a).1 h)
    · intro h
      by_cases hb : bs a.block
      · exact .inr ((h1 a).2 hb)
      · exact .inl ⟨h, hb⟩
  have k0 : Keep0 g g' := ⟨Nat.le_refl _, fun _ _ => rfl, fun _ _ e h => ⟨e, h, Nat.le_refl _, fun _ => rfl⟩, k.size, fun a x hx hr => k.cells a x hx fun q => hr ((hreg a).2 q), fun a ha hr q => k.regs a ha (fun q' => hr ((hreg a).2 q')) ((hreg' a).1 q),
    fun b hb hr => k.blocks b hb fun off q => hr off ((hreg _).2 q), k.io⟩
  have hin : ∀ a, g'.reg a → a.block < g'.w.heap.size := fun a ha => k.inb' a ((hreg' a).1 ha)
  have hblk : ∀ {i : Nat} {o : AObj} {a : Addr}, g.M[i]? = some o → o.covers (g.β i) (g.ρ i) a → w'.heap[a.block]? = g.w.heap[a.block]? := fun {i o a} hi hc => k.own _ ((h1 a).1 ⟨i, o, hi, hc⟩)
  have hwh : ∀ {i : Nat} {o : AObj} {b : Nat}, g.M[i]? = some o → o.whole (g.β i) (g.ρ i) b → w'.heap[b]? = g.w.heap[b]? := fun {i o b} hi hw => hblk (a := ⟨b, 0, none⟩) hi hw.covers
  refine ⟨g', rfl, rfl, ?_, r.keep0 k0, h1, fun a => Iff.rfl⟩
  refine ⟨s.fct.keep0 k0, fun i cells hi => ?_, fun i t pos hi => (hwh hi rfl).trans (s.iter i t pos hi), fun t e ht n hn => ?_, s.disj, hin, fun a ha q => ha.2 ((h1 a).1 q), fun i es hi => ?_, fun i es vis cur t hi => ?_, fun i φ hi => ?_, fun i P cur hi => ?_, fun i z els hi => ?_⟩
  · obtain ⟨xs, T, q1, q2, q3, q4⟩ := s.blk i cells hi
    exact ⟨xs, T, (hwh hi rfl).trans q1, q2, fun j hj => (q3 j hj).keep0 k0, q4⟩
  · obtain ⟨x, q1, q2⟩ := s.room t e ht n hn
    have hb : w'.heap[(g.ρ t).b]? = g.w.heap[(g.ρ t).b]? := hblk (a := ⟨(g.ρ t).b, (g.ρ t).off + n, none⟩) ht ⟨rfl, by simp, by simpa using hn⟩
    exact ⟨x, by simpa only [g', World.cell?, hb] using q1, by simpa only [g', World.frozen?, hb] using q2⟩
  · obtain ⟨o, q1, q2⟩ := s.mapo i es hi
    exact ⟨o, (hwh hi rfl).trans q1, q2.keep0 k0⟩
  · obtain ⟨t1, t2, o, oi, q1, q2, q3⟩ := s.mapr i es vis cur t hi
    exact ⟨t1, t2, o, oi, (hwh hi (.inl rfl)).trans q1, (hwh hi (.inr rfl)).trans q2, q3.keep0 k0⟩
  · have e1 := hwh hi (.inl rfl)
    have e2 := hwh hi (.inr rfl)
    show φ _ _ (w'.heap[g.β i]?) (w'.heap[(g.ρ i).b]?)
    rw [e1, e2]; exact s.opq i φ hi
  · exact s.ownKeep k0 hin hi hi rfl rfl fun b hb => hwh hi hb
  · exact (s.arr i z els hi).keep0 k0 fun hne => hwh hi ⟨hne, rfl⟩

/-- The rows of such a map: keys, what their values own; 'hole': the key whose row is let out. -/
inductive Rows {K T : Type} (kE : K → Value) (N : T → List AObj) (V : T → AV) (w : World) (C : Addr → Prop) (hole : Option Value) : (Nat → Prop) → List (K × T) → List (Value × Value) → Prop
  | nil (bs : Nat → Prop) (h : ∀ b, ¬ bs b) : Rows kE N V w C hole bs [] []
  | hole (bs : Nat → Prop) (k : K) (x : T) (u : Value) (r : List (K × T)) (l : List (Value × Value)) (hk : hole = some (kE k)) (q : Rows kE N V w C hole bs r l) : Rows kE N V w C hole bs ((k, x) :: r) ((kE k, u) :: l)
  | cons (bs b1 b2 : Nat → Prop) (k : K) (x : T) (u : Value) (r : List (K × T)) (l : List (Value × Value)) (hk : hole ≠ some (kE k)) (p : Pk (N x) (V x) w C b1 u) (hb : ∀ b, bs b ↔ b1 b ∨ b2 b) (hd : ∀ b, b1 b → ¬ b2 b)
      (q : Rows kE N V w C hole b2 r l) : Rows kE N V w C hole bs ((k, x) :: r) ((kE k, u) :: l)

section
variable {K T : Type} {kE : K → Value} {N : T → List AObj} {V : T → AV} {w : World} {C : Addr → Prop} {hole : Option Value}

theorem Rows.keep {w' : World} {C' : Addr → Prop} {bs : Nat → Prop} {rows : List (K × T)} {l : List (Value × Value)} (h : Rows kE N V w C hole bs rows l) (k : HK w C w' C' bs) : Rows kE N V w' C' hole bs rows l := by
  induction h with
  | nil bs h => exact .nil bs h
  | hole bs c x u r l hk _ ih => exact .hole bs c x u r l hk (ih k)
  | cons bs b1 b2 c x u r l hk p hb hd _ ih =>
    have hsub : ∀ {b0 : Nat → Prop}, (∀ b, b0 b → bs b) → HK w C w' C' b0 := fun {b0} h => ⟨k.size, k.cells, k.regs, k.blocks, k.io, fun b hb => k.own b (h b hb), fun a ha => k.inC a (h _ ha), fun a ha => k.inC' a (h _ ha), k.inb'⟩
    exact .cons bs b1 b2 c x u r l hk (p.keep (hsub fun b h => (hb b).2 (.inl h))) hb hd (ih (hsub fun b h => (hb b).2 (.inr h)))

/-- Away from the hole it does not matter. -/
theorem Rows.rehole {hole' : Option Value} {bs : Nat → Prop} {rows : List (K × T)} {l : List (Value × Value)} (h : Rows kE N V w C hole bs rows l) (h1 : ∀ e ∈ l, hole ≠ some e.1) (h2 : ∀ e ∈ l, hole' ≠ some e.1) : Rows kE N V w C hole' bs rows l := by
  induction h with
  | nil bs h => exact .nil bs h
  | hole bs k x u r l hk _ _ => exact absurd hk (h1 _ (.head _))
  | cons bs b1 b2 c x u r l hk p hb hd _ ih => exact .cons bs b1 b2 c x u r l (h2 _ (.head _)) p hb hd (ih (fun e he => h1 e (.tail _ he)) fun e he => h2 e (.tail _ he))
end

/-- The row of a key. -/
def findM {K T : Type} (eq : K → K → Bool) (k : K) : List (K × T) → Option T
  | [] => none
  | (c, x) :: r => if eq k c = true then some x else findM eq k r

/-- Equality of keys is that of their values. -/
def KeyEq {K : Type} (eq : K → K → Bool) (kE : K → Value) : Prop := ∀ a b, eq a b = true ↔ kE a = kE b

section
variable {K T : Type} {kE : K → Value} {N : T → List AObj} {V : T → AV} {w : World} {C : Addr → Prop} {eq : K → K → Bool}

/-- The row of a key is taken out. -/
theorem Rows.open (he : KeyEq eq kE) {k : K} {x : T} {bs : Nat → Prop} {rows : List (K × T)} {l : List (Value × Value)} (h : Rows kE N V w C none bs rows l) (hn : (l.map (·.1)).Nodup) (hf : findM eq k rows = some x) :
    ∃ b1 b2 u, (kE k, u) ∈ l ∧ Pk (N x) (V x) w C b1 u ∧ Rows kE N V w C (some (kE k)) b2 rows l ∧ (∀ b, bs b ↔ b1 b ∨ b2 b) ∧ ∀ b, b1 b → ¬ b2 b := by
  generalize hh : (none : Option Value) = hole at h
  induction h with
  | nil bs h => cases hf
  | hole bs c y u r l hk _ _ => subst hh; cases hk
  | cons bs b1 b2 c y u r l hk p hb hd q ih =>
    subst hh
    unfold findM at hf
    simp only [List.map_cons, List.nodup_cons] at hn
    cases hc : eq k c with
    | true =>
      simp only [hc, if_true] at hf
      obtain rfl : y = x := Option.some.inj hf
      have hkc := (he k c).1 hc
      refine ⟨b1, b2, u, by rw [hkc]; exact .head _, p, ?_, hb, hd⟩
      rw [hkc]
      refine .hole b2 c y u r l rfl (q.rehole (fun e _ h => by cases h) fun e hm h => ?_)
      exact hn.1 (Option.some.inj h ▸ List.mem_map.2 ⟨e, hm, rfl⟩)
    | false =>
      simp only [hc, Bool.false_eq_true, if_false] at hf
      obtain ⟨d1, d2, v, h1, h2, h3, h4, h5⟩ := ih hn.2 hf
      have hne : kE k ≠ kE c := fun h => by rw [(he k c).2 h] at hc; cases hc
      refine ⟨d1, fun b => b1 b ∨ d2 b, v, .tail _ h1, h2, .cons _ b1 d2 c y u r l (fun h => hne (Option.some.inj h)) p (fun b => Iff.rfl) (fun b h q => hd b h ((h4 b).2 (.inr q))) h3, fun b => ?_, fun b h q => ?_⟩
      · rw [hb, h4]
        constructor
        · rintro (h | h | h)
          · exact .inr (.inl h)
          · exact .inl h
          · exact .inr (.inr h)
        · rintro (h | h | h)
          · exact .inr (.inl h)
          · exact .inl h
          · exact .inr (.inr h)
      · rcases q with q | q
        · exact hd b q ((h4 b).2 (.inl h))
        · exact h5 b h q

/-- And put in again. -/
theorem Rows.close (he : KeyEq eq kE) {k : K} {x : T} {b1 b2 bs : Nat → Prop} {rows : List (K × T)} {l : List (Value × Value)} {u : Value} (h : Rows kE N V w C (some (kE k)) b2 rows l) (hn : (l.map (·.1)).Nodup) (hm : (kE k, u) ∈ l)
    (p : Pk (N x) (V x) w C b1 u) (hb : ∀ b, bs b ↔ b1 b ∨ b2 b) (hd : ∀ b, b1 b → ¬ b2 b) : Rows kE N V w C none bs (setM eq k x rows) l := by
  generalize hh : some (kE k) = hole at h
  induction h generalizing bs with
  | nil => cases hm
  | hole b2 c y v r l hk q ih =>
    subst hh
    have hkc : kE k = kE c := Option.some.inj hk
    simp only [List.map_cons, List.nodup_cons] at hn
    have hu : u = v := by
      rcases List.mem_cons.1 hm with hm | hm
      · exact (Prod.mk.inj hm).2
      · exact absurd (List.mem_map.2 ⟨_, hm, hkc⟩) hn.1
    subst hu
    have hq : Rows kE N V w C none b2 r l := q.rehole (fun e hm h => hn.1 (by rw [← hkc, Option.some.inj h]; exact List.mem_map.2 ⟨e, hm, rfl⟩)) fun _ _ h => by cases h
    simp only [setM, (he k c).2 hkc, if_true]
    rw [← hkc]
    exact .cons bs b1 b2 k x u r l (fun h => by cases h) p hb hd hq
  | cons b2 d1 d2 c y v r l hk p' hb' hd' q ih =>
    subst hh
    have hne : kE k ≠ kE c := fun h => hk (by rw [h])
    simp only [List.map_cons, List.nodup_cons] at hn
    have hm' : (kE k, u) ∈ l := by
      rcases List.mem_cons.1 hm with hm | hm
      · exact absurd (Prod.mk.inj hm).1 hne
      · exact hm
    have hc : eq k c = false := by
      cases hc : eq k c with
      | true => exact absurd ((he k c).1 hc) hne
      | false => rfl
    have ih' := ih (bs := fun b => b1 b ∨ d2 b) hn.2 hm' (fun b => Iff.rfl) (fun b h q => hd b h ((hb' b).2 (.inr q)))
    simp only [setM, hc, Bool.false_eq_true, if_false]
    refine .cons bs d1 _ c y v _ l (fun h => by cases h) p' (fun b => ?_) (fun b h q => ?_) ih'
    · rw [hb, hb']
      constructor
      · rintro (h | h | h)
        · exact .inr (.inl h)
        · exact .inl h
        · exact .inr (.inr h)
      · rintro (h | h | h)
        · exact .inr (.inl h)
        · exact .inl h
        · exact .inr (.inr h)
    · rcases q with q | q
      · exact hd b q ((hb' b).2 (.inl h))
      · exact hd' b h q

/-- A row more. -/
theorem Rows.push {k : K} {x : T} {b1 b2 bs : Nat → Prop} {rows : List (K × T)} {l : List (Value × Value)} {u : Value} (h : Rows kE N V w C none b2 rows l) (p : Pk (N x) (V x) w C b1 u) (hb : ∀ b, bs b ↔ b1 b ∨ b2 b) (hd : ∀ b, b1 b → ¬ b2 b) :
    Rows kE N V w C none bs (rows ++ [(k, x)]) (l ++ [(kE k, u)]) := by
  generalize hh : (none : Option Value) = hole at h
  induction h generalizing bs with
  | nil b2 h =>
    subst hh
    exact .cons bs b1 b2 k x u [] [] (fun h => by cases h) p hb hd (.nil b2 h)
  | hole _ _ _ _ _ _ hk _ _ => subst hh; cases hk
  | cons b2 d1 d2 c y v r l hk p' hb' hd' q ih =>
    subst hh
    refine .cons bs d1 (fun b => b1 b ∨ d2 b) c y v _ _ (fun h => by cases h) p' (fun b => ?_) (fun b h q => ?_) (ih (fun b => Iff.rfl) (fun b h q => hd b h ((hb' b).2 (.inr q))))
    · rw [hb, hb']
      constructor
      · rintro (h | h | h)
        · exact .inr (.inl h)
        · exact .inl h
        · exact .inr (.inr h)
      · rintro (h | h | h)
        · exact .inr (.inl h)
        · exact .inl h
        · exact .inr (.inr h)
    · rcases q with q | q
      · exact hd b q ((hb' b).2 (.inl h))
      · exact hd' b h q

end

/-! ### An entry is opened -/
/-! ### And closed -/
def AObj.isRoom : AObj → Bool
  | .room _ => true
  | _ => false
end Go.Ab
end

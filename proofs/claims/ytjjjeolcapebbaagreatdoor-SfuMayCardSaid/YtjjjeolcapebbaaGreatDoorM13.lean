/- Ranging over a map whose body strikes entries: a step of the range, in code; the whole loop. No condition: over any program. -/
import Derived.Test.YtjjjeolcapebbaaGreatDoorAb9
import Derived.Deep.AppendSrc
import Derived.Laws.AppendOwn
import Derived.Lib.Builder
import Derived.Test.YtjjjeolcapebbaaGreatDoorTy
import Derived.Laws.Externs
import Derived.Maps.OwnSet
import Derived.ChangeBears
import Derived.KernelRfl
section
namespace Go.Ab
attribute [simp] entry2Out entryKOut entryOut curR
variable {P : Program} {n B : Nat} {Q : Exit → St → Prop} {σ : St} {ty : TyTab} {Γ : Gam}

end Go.Ab
end
section
namespace Go.Ab

/-- An object's relation, and its blocks, are turned; all else is as it was. -/
theorem opq_turn {g : G} (s : Sim g) {i : Nat} {φ φ' : Opq} (hM : g.M[i]? = some (.opq φ)) {w' : World} {rb : Nat} (hsize : g.w.heap.size ≤ w'.heap.size) (io : SameIO g.w w')
    (hblk : ∀ k, k < g.w.heap.size → k ≠ g.β i → k ≠ (g.ρ i).b → w'.heap[k]? = g.w.heap[k]?)
    (hrb : rb = (g.ρ i).b ∨ rb = g.β i ∨ (g.w.heap.size ≤ rb ∧ rb < w'.heap.size)) (hφ : φ' (g.β i) rb (w'.heap[g.β i]?) (w'.heap[rb]?)) :
    Keep g ⟨g.M.set i (.opq φ'), g.β, upd g.ρ i ⟨rb, 0, 0, nobs⟩, w', g.X⟩ ∧ Sim ⟨g.M.set i (.opq φ'), g.β, upd g.ρ i ⟨rb, 0, 0, nobs⟩, w', g.X⟩ := by
  have hil : i < g.M.length := by
    rcases Nat.lt_or_ge i g.M.length with h | h
    · exact h
    · simp [List.getElem?_eq_none h] at hM
  have cov1 : ∀ off, (AObj.opq φ).covers (g.β i) (g.ρ i) ⟨g.β i, off, none⟩ := fun _ => .inl rfl
  have cov2 : ∀ off, (AObj.opq φ).covers (g.β i) (g.ρ i) ⟨(g.ρ i).b, off, none⟩ := fun _ => .inr rfl
  have get : ∀ {j : Nat} {o : AObj}, (g.M.set i (.opq φ'))[j]? = some o → (j ≠ i ∧ g.M[j]? = some o) ∨ (j = i ∧ o = .opq φ') := by
    intro j o h
    rw [List.getElem?_set] at h
    by_cases hj : i = j
    · subst hj
      rw [if_pos rfl, if_pos hil] at h
      exact .inr ⟨rfl, (Option.some.inj h).symm⟩
    · rw [if_neg hj] at h
      exact .inl ⟨fun e => hj e.symm, h⟩
  -- what another object covers lies elsewhere
  have other : ∀ {j : Nat} {o : AObj} {a : Addr}, j ≠ i → g.M[j]? = some o → o.covers (g.β j) (g.ρ j) a → a.block ≠ g.β i ∧ a.block ≠ (g.ρ i).b := by
    intro j o a hj ho hc
    refine ⟨fun e => hj (s.disj j i o _ a ho hM hc (.inl e)), fun e => hj (s.disj j i o _ a ho hM hc (.inr e))⟩
  have heap : ∀ {j : Nat} {o : AObj} {a : Addr}, j ≠ i → g.M[j]? = some o → o.covers (g.β j) (g.ρ j) a → w'.heap[a.block]? = g.w.heap[a.block]? := by
    intro j o a hj ho hc
    exact hblk _ (s.inb a (reg_of ho hc)) (other hj ho hc).1 (other hj ho hc).2
  have unreg : ∀ {a : Addr}, ¬ g.reg a → a.block ≠ g.β i ∧ a.block ≠ (g.ρ i).b := by
    intro a h
    exact ⟨fun e => h (reg_of hM (.inl e)), fun e => h (reg_of hM (.inr e))⟩
  have regs : ∀ a, a.block < g.w.heap.size → ¬ g.reg a → ¬ (⟨g.M.set i (.opq φ'), g.β, upd g.ρ i ⟨rb, 0, 0, nobs⟩, w', g.X⟩ : G).reg a := by
    intro a ha hr hr'
    rcases hr' with hr' | ⟨j, o, hj, hc⟩
    · exact hr (.inl hr')
    rcases get hj with ⟨hne, hj'⟩ | ⟨rfl, rfl⟩
    · exact hr (reg_of hj' (by simpa [upd_other _ _ hne] using hc))
    · have hc' : a.block = g.β j ∨ a.block = rb := by simpa [AObj.covers] using hc
      have h2 := unreg hr
      rcases hc' with h | h
      · exact h2.1 h
      · rcases hrb with h' | h' | h'
        · exact h2.2 (h.trans h')
        · exact h2.1 (h.trans h')
        · omega
  have xne : ∀ {a : Addr}, g.X a → a.block ≠ g.β i ∧ a.block ≠ (g.ρ i).b := fun h =>
    ⟨fun e => s.xdis _ h ⟨i, _, hM, .inl e⟩, fun e => s.xdis _ h ⟨i, _, hM, .inr e⟩⟩
  have k : Keep g ⟨g.M.set i (.opq φ'), g.β, upd g.ρ i ⟨rb, 0, 0, nobs⟩, w', g.X⟩ := by
    refine ⟨⟨by simp, fun _ _ => rfl, fun t ht e' he' => ?_, hsize, fun a x hx hr => ?_, regs, fun b hb hr => ?_, io⟩, fun _ h => h, fun a ha hx => ?_, fun b hb hx => ?_⟩
    · rcases get he' with ⟨hne, h⟩ | ⟨_, h⟩
      · exact ⟨e', h, Nat.le_refl _, fun _ => upd_other _ _ hne⟩
      · cases h
    · rw [← hx]; simp only [World.cell?]; rw [hblk _ (cell_lt hx) (unreg hr).1 (unreg hr).2]
    · exact hblk b hb (unreg (hr 0)).1 (unreg (hr 0)).2
    · simp only [World.cell?, World.frozen?]; rw [hblk _ ha (xne hx).1 (xne hx).2]; exact ⟨rfl, rfl⟩
    · exact hblk b hb (xne (hx 0)).1 (xne (hx 0)).2
  have hin : ∀ a, (⟨g.M.set i (.opq φ'), g.β, upd g.ρ i ⟨rb, 0, 0, nobs⟩, w', g.X⟩ : G).reg a → a.block < w'.heap.size := by
    intro a ha
    rcases ha with ha | ⟨j, o, hj, hc⟩
    · exact Nat.lt_of_lt_of_le (s.inb a (.inl ha)) hsize
    rcases get hj with ⟨hne, hj'⟩ | ⟨rfl, rfl⟩
    · exact Nat.lt_of_lt_of_le (s.inb a (reg_of hj' (by simpa [upd_other _ _ hne] using hc))) hsize
    · have hc' : a.block = g.β j ∨ a.block = rb := by simpa [AObj.covers] using hc
      have l1 := whole_lt s hM (.inl rfl)
      have l2 := whole_lt s hM (.inr rfl)
      show a.block < w'.heap.size
      rcases hc' with h | h
      · omega
      · rcases hrb with h' | h' | h' <;> omega
  refine ⟨k, ?_⟩
  refine ⟨s.fct.keep k, fun j cells hj => ?_, fun j t pos hj => ?_, fun t e ht q hq => ?_, fun j1 j2 o1 o2 a h1 h2 c1 c2 => ?_, fun a ha => ?_, fun a hx hr => ?_, fun j es hj => ?_, fun j es vis cur t hj => ?_, fun j ψ hj => ?_, fun j Po cur hj => ?_, fun j z els hj => ?_⟩
  · rcases get hj with ⟨hne, h⟩ | ⟨_, h⟩
    · obtain ⟨xs, T, h1, h2, h3, h4⟩ := s.blk j cells h
      exact ⟨xs, T, (heap (a := ⟨g.β j, 0, none⟩) hne h rfl).trans h1, h2, fun q hq => (h3 q hq).keep k, h4⟩
    · cases h
  · rcases get hj with ⟨hne, h⟩ | ⟨_, h⟩
    · exact (heap (a := ⟨g.β j, 0, none⟩) hne h rfl).trans (s.iter j t pos h)
    · cases h
  · rcases get ht with ⟨hne, h⟩ | ⟨_, h⟩
    · simp only [upd_other _ _ hne] at hq ⊢
      obtain ⟨x, h1, h2⟩ := s.room t e h q hq
      have hh := heap (a := ⟨(g.ρ t).b, (g.ρ t).off + q, none⟩) hne h (show _ ∧ _ ∧ _ from ⟨rfl, by simp only; omega, by simp only; omega⟩)
      simp only at hh
      refine ⟨x, ?_, ?_⟩
      · simp only [World.cell?] at h1 ⊢; rw [hh]; exact h1
      · simp only [World.frozen?] at h2 ⊢; rw [hh]; exact h2
    · cases h
  · rcases get h1 with ⟨n1, g1⟩ | ⟨e1, rfl⟩ <;> rcases get h2 with ⟨n2, g2⟩ | ⟨e2, rfl⟩
    · simp only [upd_other _ _ n1, upd_other _ _ n2] at c1 c2
      exact s.disj j1 j2 o1 o2 a g1 g2 c1 c2
    · exfalso
      simp only [upd_other _ _ n1] at c1
      subst e2
      have hc : a.block = g.β j2 ∨ a.block = rb := by simpa [AObj.covers] using c2
      have ho := other n1 g1 c1
      have hl := s.inb a (reg_of g1 c1)
      rcases hc with h | h
      · exact ho.1 h
      · rcases hrb with h' | h' | h'
        · exact ho.2 (h.trans h')
        · exact ho.1 (h.trans h')
        · omega
    · exfalso
      simp only [upd_other _ _ n2] at c2
      subst e1
      have hc : a.block = g.β j1 ∨ a.block = rb := by simpa [AObj.covers] using c1
      have ho := other n2 g2 c2
      have hl := s.inb a (reg_of g2 c2)
      rcases hc with h | h
      · exact ho.1 h
      · rcases hrb with h' | h' | h'
        · exact ho.2 (h.trans h')
        · exact ho.1 (h.trans h')
        · omega
    · rw [e1, e2]
  · exact hin a ha
  · obtain ⟨j, o, hj, hc⟩ := hr
    have hx0 := xne hx
    have hl := s.inb a (.inl hx)
    rcases get hj with ⟨hne, hj'⟩ | ⟨rfl, rfl⟩
    · exact s.xdis a hx ⟨j, o, hj', by simpa [upd_other _ _ hne] using hc⟩
    · have hc' : a.block = g.β j ∨ a.block = rb := by simpa [AObj.covers] using hc
      rcases hc' with h | h
      · exact hx0.1 h
      · rcases hrb with h' | h' | h'
        · exact hx0.2 (h.trans h')
        · exact hx0.1 (h.trans h')
        · omega
  · rcases get hj with ⟨hne, h⟩ | ⟨_, h⟩
    · obtain ⟨o, h1, h2⟩ := s.mapo j es h
      exact ⟨o, (heap (a := ⟨g.β j, 0, none⟩) hne h rfl).trans h1, h2.keep k⟩
    · cases h
  · rcases get hj with ⟨hne, h⟩ | ⟨_, h⟩
    · obtain ⟨t1, t2, o, oi, h1, h2, h3⟩ := s.mapr j es vis cur t h
      simp only [upd_other _ _ hne]
      exact ⟨by simpa using t1, t2, o, oi, (heap (a := ⟨g.β j, 0, none⟩) hne h (.inl rfl)).trans h1, (heap (a := ⟨(g.ρ j).b, 0, none⟩) hne h (.inr rfl)).trans h2, h3.keep k⟩
    · cases h
  · rcases get hj with ⟨hne, h⟩ | ⟨rfl, h⟩
    · have e1 := heap (a := ⟨g.β j, 0, none⟩) hne h (.inl rfl)
      have e2 := heap (a := ⟨(g.ρ j).b, 0, none⟩) hne h (.inr rfl)
      simp only at e1 e2
      simp only [upd_other _ _ hne]
      show ψ.rel ψ.bs _ _ (w'.heap[g.β j]?) (w'.heap[(g.ρ j).b]?)
      rw [e1, e2]; exact s.opq j ψ h
    · cases h
      simp only [upd_same]
      exact hφ
  · rcases get hj with ⟨hne, h⟩ | ⟨_, h⟩
    · exact s.ownKeep k.toKeep0 hin h hj rfl (by simp [upd_other _ _ hne]) fun b hb => heap (a := ⟨b, 0, none⟩) hne h (AObj.whole.covers hb)
    · cases h
  · rcases get hj with ⟨hne, h⟩ | ⟨_, h⟩
    · exact (s.arr j z els h).keep0 k.toKeep0 fun hz => heap (a := ⟨g.β j, 0, none⟩) hne h ⟨hz, rfl⟩
    · cases h

/-- A region that makes such an object. -/
theorem AWp.regAlloc {P : Program} {n B : Nat} {Q : Exit → St → Prop} {σ : St} {id d1 : Nat} {ops : Array Oper} {o1 : Oper} {T : TypeId} {z : Value} {cs : Array Value} (φ : Opq) (ho : ops.toList = [o1]) (ho1 : o1.op = .alloc T) (hg : o1.guard = none)
    (hd1 : o1.dst = some d1) (hd : dstsOk ops n ops.toList [] = true) (hn : noTags σ.A = true) (hz : ∀ w, (zeroValue T).run P w = .ok z w) (hc : z.cells = cs)
    (hφ : ∀ b o, φ b b (some (.cells cs T (0, 0))) o) {dead : List Nat} (h : Q .normal ⟨⟨d1, none, .ptr σ.M.length 0⟩ :: without dead (without [d1] σ.A), σ.M ++ [.opq φ]⟩) :
    AWp P n B (.region id ops false) Q σ := by
  obtain ⟨A, M⟩ := σ
  intro g0 g a at_
  have hgM : g.M = M := at_.mem
  have htags : tagsIn A [] := fun e he τ hτ => by
    have := List.all_eq_true.1 hn e he
    simp [hτ] at this
  have hd' := hd
  rw [ho] at hd'
  unfold dstsOk at hd'
  rw [hd1] at hd'
  simp only [Bool.and_eq_true] at hd'
  have htag : tagOf ops o1 = some none := by unfold tagOf; rw [hg]
  have hdl : d1 < a.tmps.size := by
    rw [at_.size]
    simpa using hd'.1
  refine wp_region_list ?_
  rw [ho]
  unfold wpList
  rw [wanted_iff htag]
  simp only [tagB, if_true]
  left
  have hrun : (Instr.alloc T true (.tuple #[])).run P g.w = .ok (.pointer (some ⟨g.w.heap.size, 0, none⟩)) { g.w with heap := g.w.heap.push (.cells cs T) } := by
    simp [Instr.alloc, hz, newVar, newRow, hc]
  have hDoes : Does P o1 a g.w (fun v' w'' => v' = .pointer (some ⟨g.w.heap.size, 0, none⟩) ∧ w'' = { g.w with heap := g.w.heap.push (.cells cs T) }) := by
    obtain ⟨dst, op, type, pos, after, guard⟩ := o1
    simp only at ho1
    subst ho1
    unfold Does
    show After P _ ((do pure (Next.value (← Instr.alloc T true (.tuple #[])))).run P g.w)
    rw [Sem.run_bind, hrun]
    exact ⟨rfl, rfl⟩
  refine hDoes.wp fun v' w'' hv => ?_
  obtain ⟨rfl, rfl⟩ := hv
  rw [hd1]
  have hcov : ∀ x, (AObj.opq φ).covers g.w.heap.size (⟨g.w.heap.size, 0, 0, nobs⟩ : Room) x → x.block = g.w.heap.size := fun x hx => Or.elim hx (fun h => h) (fun h => h)
  have k := keep_add (g := g) (ao := .opq φ) (r := ⟨g.w.heap.size, 0, 0, nobs⟩) (w' := { g.w with heap := g.w.heap.push (.cells cs T) }) rfl hcov
  have s' := sim_add (g := g) (ao := .opq φ) (r := ⟨g.w.heap.size, 0, 0, nobs⟩) (w' := { g.w with heap := g.w.heap.push (.cells cs T) }) rfl hcov at_.sim
    (fun cs hcs => by cases hcs) (fun _ _ h => by cases h) (fun _ h => by cases h) (hopq := fun ψ hψ => by
      cases hψ
      simp only [Array.getElem?_push_size]
      exact hφ _ _)
  have hr : R (g.add (.opq φ) ⟨g.w.heap.size, 0, 0, nobs⟩ { g.w with heap := g.w.heap.push (.cells cs T) }) (.ptr g.M.length 0) (.pointer (some ⟨g.w.heap.size, 0, none⟩)) := by
    have q : R (g.add (.opq φ) ⟨g.w.heap.size, 0, 0, nobs⟩ { g.w with heap := g.w.heap.push (.cells cs T) }) (.ptr g.M.length 0) (.pointer (some ⟨(g.add (.opq φ) ⟨g.w.heap.size, 0, 0, nobs⟩ { g.w with heap := g.w.heap.push (.cells cs T) }).β g.M.length, 0, none⟩)) :=
      .ptr _ _ (by simp [G.add])
    simp only [G.add, upd_same] at q
    exact q
  have hA' := (EnvRel.keep k at_.env).put (a := a) (dst := some d1) (tag := none) (fun d hd => by cases hd; exact ⟨hdl, free_of htags (by simp), fun τ hτ => by cases hτ⟩) hr
  unfold wpList
  refine ⟨_, g.add (.opq φ) ⟨g.w.heap.size, 0, 0, nobs⟩ { g.w with heap := g.w.heap.push (.cells cs T) }, h, rfl, at_.base, at_.ax, at_.keep.trans k, ?_, s', ?_, by rw [size_put]; exact at_.size, by rw [defers_put]; exact at_.defers⟩
  · show g.M ++ _ = M ++ _
    rw [hgM]
  · intro t tag av he
    rw [hgM] at hA'
    by_cases ht : d1 = t
    · subst ht
      refine hA' _ _ _ ?_
      simpa [ent] using he
    · refine hA' _ _ _ ?_
      have he' : ent (without dead (without [d1] A)) t = some (tag, av) := by simpa [ent, ht] using he
      rw [without_ent] at he'
      split at he'
      · cases he'
      rw [without_ent] at he'
      split at he'
      · cases he'
      · simpa [ent, ht] using he'
end Go.Ab
end
section
namespace Go.Ab

/-- A Writer. -/
def wrO (T E : TypeId) (bs : List Int) : Opq := ⟨bs, some (T, E)⟩
/-- One whose text has been taken: its bytes are frozen. -/
def wrX : Opq := ⟨[], none⟩

theorem wr_fresh (T E : TypeId) (b : Nat) (o : Option Obj) : (wrO T E []) b b (some (.cells #[.pointer none, .slice none 0 0] T (0, 0))) o :=
  show WrB T E [] b b _ o from ⟨_, _, rfl, .inl rfl, .inl ⟨rfl, rfl, rfl⟩⟩

theorem WrB.at {T E : TypeId} {bs : List Int} {b rb : Nat} {w : World} (h : WrB T E bs b rb (w.heap[b]?) (w.heap[rb]?)) :
    ∃ p v, w.heap[b]? = some (.cells #[p, v] T (0, 0)) ∧ (p = .pointer none ∨ p = .pointer (some ⟨b, 0, none⟩)) ∧ w.ownsRow 0 E 1 v bs.length (bs.map (Value.int .u8)) ∧
      v.ownBlock ≠ some b ∧ ((v.ownBlock = none ∧ rb = b) ∨ v.ownBlock = some rb) := by
  obtain ⟨p, v, h1, h2, h3⟩ := h
  refine ⟨p, v, h1, h2, ?_⟩
  rcases h3 with ⟨rfl, rfl, rfl⟩ | ⟨cap, cur, rfl, hne, ho, hc, hm, hs, ht⟩
  · exact ⟨⟨by simp, .inl ⟨rfl, rfl⟩⟩, by simp [Value.ownBlock], .inl ⟨rfl, rfl⟩⟩
  · exact ⟨⟨by simp, .inr ⟨rb, cap, cur, rfl, Nat.zero_le _, ho, hc, hm, by simpa using hs, by simpa using ht⟩⟩, by simpa [Value.ownBlock] using hne, .inr rfl⟩

theorem WrB.of {T E : TypeId} {bs : List Int} {b : Nat} {p v : Value} {w : World} (h1 : w.heap[b]? = some (.cells #[p, v] T (0, 0))) (h2 : p = .pointer none ∨ p = .pointer (some ⟨b, 0, none⟩))
    (h3 : w.ownsRow 0 E 1 v bs.length (bs.map (Value.int .u8))) (h4 : v.ownBlock ≠ some b) : WrB T E bs b (v.ownBlock.getD b) (w.heap[b]?) (w.heap[v.ownBlock.getD b]?) := by
  refine ⟨p, v, h1, h2, ?_⟩
  rcases h3.2 with ⟨rfl, hn⟩ | ⟨g, cap, cur, rfl, _, ho, hc, hm, hs, ht⟩
  · exact .inl ⟨rfl, List.eq_nil_of_length_eq_zero hn, rfl⟩
  · simp only [Value.ownBlock, ne_eq, Option.some.injEq, Option.getD_some] at h4 ⊢
    exact .inr ⟨cap, cur, rfl, h4, ho, hc, hm, by simpa using hs, by simpa using ht⟩

/-- All but a Writer's two blocks is as it was. -/
structure WrKeep (b : Nat) (ob : Option Nat) (w w' : World) : Prop where
  size : w.heap.size ≤ w'.heap.size
  os : w'.os = w.os
  output : w'.output = w.output
  block : ∀ k, k < w.heap.size → k ≠ b → some k ≠ ob → w'.heap[k]? = w.heap[k]?

theorem WrKeep.refl (b : Nat) (ob : Option Nat) (w : World) : WrKeep b ob w w := ⟨Nat.le_refl _, rfl, rfl, fun _ _ _ _ => rfl⟩
theorem WrKeep.trans {b : Nat} {ob : Option Nat} {w w' w'' : World} (h : WrKeep b ob w w') (h' : WrKeep b ob w' w'') : WrKeep b ob w w'' :=
  ⟨Nat.le_trans h.size h'.size, h'.os.trans h.os, h'.output.trans h.output, fun k h1 h2 h3 => (h'.block k (Nat.lt_of_lt_of_le h1 h.size) h2 h3).trans (h.block k h1 h2 h3)⟩
theorem WrKeep.grown {b : Nat} {ob : Option Nat} {w w' : World} (h : w.grownBy w' ob) : WrKeep b ob w w' := ⟨h.size, h.os, h.output, fun k h1 _ h3 => h.block k h1 h3⟩
theorem heap_setCell_ne {w : World} {b off k : Nat} {v : Value} (h : k ≠ b) : (w.setCell ⟨b, off, none⟩ v).heap[k]? = w.heap[k]? := by
  simp only [World.setCell, Array.getElem?_modify]
  rw [if_neg (fun e => h e.symm)]
theorem WrKeep.setCell (b off : Nat) (ob : Option Nat) (w : World) (v : Value) : WrKeep b ob w (w.setCell ⟨b, off, none⟩ v) :=
  ⟨by simp [World.setCell], rfl, rfl, fun _ _ h2 _ => heap_setCell_ne h2⟩

/-- An append to a row of one's own, of whatever yields cells: where the row lies then. -/
theorem run_append_w {P : Program} (w : World) (t tx ty e : TypeId) (i : TypeInfo) (z : Value) (ht : P.underlying t = some (.slice e)) (hi : P.info? e = some i) (hz : i.zero = some z)
    (hsize : i.size = 1) (hby : i.bytes = 1) (hzs : z.cells.size = 1) (v : Value) (n : Nat) (xs : List Value) (hown : w.ownsRow 0 e 1 v n xs) (x : Value) (m : Nat) (news : List Value) (hs : Src P 1 tx x m news w)
    (hm : 0 < m) (hbytes : n + m ≤ 140737488355328) :
    ∃ v' w', (Builtin.append_ #[t, tx] ty #[v, x]).run P w = .ok v' w' ∧ w'.ownsRow 0 e 1 v' (n + m) (xs ++ news) ∧ w.grownBy w' v.ownBlock ∧ (v'.ownBlock = v.ownBlock ∨ v'.ownBlock = some w.heap.size) ∧ v'.ownBlock ≠ none := by
  have hl : news.length = m := by simpa using hs.newsLen
  have hx : xs.length = n := by simpa using hown.1
  have hlen : (xs ++ news).length = (n + m) * 1 := by rw [List.length_append, hl, hx, Nat.mul_one]
  have h63 : n + m ≤ maxLen := by simp only [maxLen]; omega
  have hs' : Src P i.size tx x m news w := by rw [hsize]; exact hs
  have grow : ∀ (base : Option Addr) (cap : Nat), cap < n + m → v = .slice base n cap → (Builtin.firstCells i.size n (.slice base n cap)).run P w.drew = .ok xs.toArray w.drew → ∀ row,
      ∃ v' w', (Builtin.append_ #[t, tx] ty #[v, x]).run P w = .ok v' w' ∧ w'.ownsRow 0 e 1 v' (n + m) (xs ++ news) ∧ w.grownBy w' row ∧ (v'.ownBlock = v.ownBlock ∨ v'.ownBlock = some w.heap.size) ∧ v'.ownBlock ≠ none := by
    intro base cap hcap hv hf row
    subst hv
    have hr := run_append_grow_src (P := P) w t tx ty e i z ht hi hz base n cap xs hf x m news hs' hcap (by omega) (growslice_fits (by omega) (by rw [hby]; omega))
    refine ⟨_, _, hr, ⟨hlen, .inr ⟨w.heap.size, _, _, rfl, Nat.zero_le _, heap_alloc_new w.drew _, grownCap_ge w (n + m) cap e, grownCap_le_maxLen w (n + m) cap e h63, ?_, ?_⟩⟩, ⟨rfl, rfl, rfl, by simp, fun k hk _ => heap_alloc_old w.drew _ hk⟩, .inr rfl, by simp [Value.ownBlock]⟩
    · have hge := grownCap_ge w (n + m) cap e
      simp only [Array.size_append, List.size_toArray, size_zeroCells, hzs, hlen]
      omega
    · simp only [Array.toList_append]
      rw [← hlen]
      exact List.take_left
  rcases hown.2 with ⟨rfl, rfl⟩ | ⟨g, cap, cur, rfl, _, hg, hnc, hcm, hcs, htake⟩
  · have : xs = [] := List.eq_nil_of_length_eq_zero hx
    subst this
    exact grow none 0 (by omega) rfl (run_firstCells_none w.drew i.size 0 0 0) _
  · by_cases hroom : n + m ≤ cap
    · have hcell : ∀ j, j < cur.size → w.cell? ⟨g, j, none⟩ = some (cur.getD j undef) := fun j hj => by simp [World.cell?, hg, hj]
      have hr := run_append_room_src (P := P) w t tx ty e i ht hi g 0 n cap x m news hs' hroom
        (fun j hj => by rw [hcell _ (by rw [hsize]; simp only [Nat.mul_one] at hcs ⊢; omega)]; rfl) (fun j _ => by simp [World.frozen?, hg])
      have hst := run_storeCells_at P g n e news 0 cur w hg (by simp only [Nat.mul_one] at hcs; simpa using (by omega : n + news.length ≤ cur.size)) hs.one
      have hst2 := run_storeCells_cells (P := P) g n news 0 w (fun j hj => by rw [hcell _ (by simp only [Nat.mul_one] at hcs; omega)]; rfl) (fun j _ => by simp [World.frozen?, hg]) hs.one
      simp only [Nat.add_zero] at hst hst2
      have hW : w.setCells g n news = w.setRow g (cur.toList.take n ++ news ++ cur.toList.drop (n + news.length)).toArray := by
        rw [hst] at hst2
        injection hst2 with _ h
        exact h.symm
      rw [hsize] at hr
      simp only [Nat.zero_add, Nat.mul_one] at hr hcs htake
      rw [hW] at hr
      refine ⟨_, _, hr, ⟨hlen, .inr ⟨g, cap, _, rfl, Nat.zero_le _, setRow_heap w g cur _ e _ hg, hroom, hcm, ?_, ?_⟩⟩, ⟨rfl, rfl, rfl, by simp, fun k _ hk => setRow_other w g k _ (fun e => hk (by simp [Value.ownBlock, e]))⟩, .inl rfl, by simp [Value.ownBlock]⟩
      · simp only [List.size_toArray, List.length_append, List.length_take, List.length_drop, Array.length_toList]
        omega
      · rw [htake, ← hlen]
        exact List.take_left
    · have holds : ∀ j u, xs[j]? = some u → w.cell? ((⟨g, 0, none⟩ : Addr).add j) = some u := hown.cells (g := g) rfl
      exact grow (some ⟨g, 0, none⟩) cap (by omega) rfl (by rw [hsize]; exact run_firstCells_some w.drew 1 n _ n cap xs (by simpa using hx) (by simpa using holds)) _

theorem wpList_append_w {P : Program} {w : World} {ops : Array Oper} {rest : List Oper} {o : Oper} {a : Act} {Q : Exit → Act → World → Prop} (hgd : o.guard = none) (s x : Operand) (t tx : TypeId)
    (ho : o.op = .call { callee := .builtin .append, args := #[s, x], argTypes := #[t, tx] }) (e : TypeId) (i : TypeInfo) (z : Value) (ht : P.underlying t = some (.slice e)) (hi : P.info? e = some i) (hz : i.zero = some z)
    (hsize : i.size = 1) (hby : i.bytes = 1) (hzs : z.cells.size = 1) (v : Value) (n : Nat) (xs : List Value) (hsv : a.eval s = v) (hown : w.ownsRow 0 e 1 v n xs) (y : Value) (hx : a.eval x = y) (m : Nat) (news : List Value) (hs : Src P 1 tx y m news w)
    (hm : 0 < m) (hbytes : n + m ≤ 140737488355328)
    (h : ∀ v' w', w'.ownsRow 0 e 1 v' (n + m) (xs ++ news) → w.grownBy w' v.ownBlock → (v'.ownBlock = v.ownBlock ∨ v'.ownBlock = some w.heap.size) → v'.ownBlock ≠ none → wpList P ops Q rest (a.put o.dst v') w') : wpList P ops Q (o :: rest) a w :=
  wpList_plain hgd fun K hK => by
    obtain ⟨v', w', hr, h2, h3, h4, h5⟩ := run_append_w (P := P) w t tx o.type e i z ht hi hz hsize hby hzs v n xs hown y m news hs hm hbytes
    unfold Oper.wp execOp
    simp only [ho, resolve, invoke, builtin, Sem.run_bind, Sem.run_pure, Result.andThen_ok, List.map_toArray, List.map_cons, List.map_nil, hsv, hx, hr]
    exact hK _ _ (h v' w' h2 h3 h4 h5)
end Go.Ab
end
section
namespace Go.Proofs
open Go.RowKit Go.Ab

theorem Tryz.bcSize : (Tryz.prog.info? 141).map (·.size) = some 2 := by kernel_rfl
theorem Tryz.bcLies : liesAt Tryz.prog Tryz.prog.depth 141 (2 / Tryz.prog.cellsOf 141) 0 141 1 = true := by kernel_rfl
theorem Tryz.bbyteI : (Tryz.prog.info? 5).map (fun i => (i.zero, i.size, i.bytes)) = some (some (.int .u8 0), 1, 1) := by kernel_rfl

set_option maxHeartbeats 1000000 in
set_option maxRecDepth 100000 in
theorem Tryz.bcFresh (b : Nat) (w : World) (v : Value) (hb : w.heap[b]? = some (.cells #[.pointer none, v] 141 (0, 0))) :
    Calls Tryz.prog 192 #[.pointer (some ⟨b, 0, none⟩)] w fun e w' => e = .returned (.tuple #[]) ∧ w' = w.setCell ⟨b, 0, none⟩ (.pointer (some ⟨b, 0, none⟩)) := by
  obtain ⟨j, hj, hjs⟩ := Option.map_eq_some_iff.1 Tryz.bcSize
  have h0 : w.cell? ⟨b, 0, none⟩ = some (.pointer none) := by rw [Lib.cell_of_heap hb]; rfl
  have hsh : w.shape? b = some (141, 2) := by simp [World.shape?, hb]
  have hfz : w.frozen? ⟨b, 0, none⟩ = false := Lib.frozen_of_heap hb 0
  go_enter Tryz.func192, Tryz.ntmps192
  go_wp2
  rw [Lib.run_to_unsafe w ⟨b, 0, none⟩ Tryz.underlying139 Tryz.underlying476 hj (by rw [hjs]; decide) hsh (Nat.zero_lt_succ 1)]
  simp only [Result.andThen]
  rw [Oper.upon_value]
  go_wp2
  rw [run_callFunc_extern Tryz.func273 (by kernel_rfl) (by kernel_rfl) (by kernel_rfl) (e := Extern.AbiNoEscape.same) (by kernel_rfl)]
  rw [Lib.run_noEscape]
  simp only [Result.andThen]
  rw [Oper.upon_value]
  go_wp2
  rw [Lib.run_from_unsafe w ⟨b, 0, none⟩ Tryz.underlying476 Tryz.underlying139 hj hsh Tryz.bcLies]
  simp only [Result.andThen]
  rw [Oper.upon_value]
  go_wp2
  go_end0
  exact ⟨rfl, rfl⟩

set_option maxHeartbeats 1000000 in
set_option maxRecDepth 100000 in
theorem Tryz.bcUsed (b : Nat) (w : World) (v : Value) (hb : w.heap[b]? = some (.cells #[.pointer (some ⟨b, 0, none⟩), v] 141 (0, 0))) :
    Calls Tryz.prog 192 #[.pointer (some ⟨b, 0, none⟩)] w fun e w' => e = .returned (.tuple #[]) ∧ w' = w := by
  obtain ⟨j, hj, hjs⟩ := Option.map_eq_some_iff.1 Tryz.bcSize
  have h0 : w.cell? ⟨b, 0, none⟩ = some (.pointer (some ⟨b, 0, none⟩)) := by rw [Lib.cell_of_heap hb]; rfl
  go_enter Tryz.func192, Tryz.ntmps192
  go_wp2
  rw [Lib.run_neq_ptr_same w _ Tryz.underlying139 hj]
  go_wp2
  go_end0
  exact ⟨rfl, rfl⟩

theorem Tryz.bcAny (b : Nat) (w : World) (p v : Value) (n : Nat) (xs : List Value) (hb : w.heap[b]? = some (.cells #[p, v] 141 (0, 0))) (hp : p = .pointer none ∨ p = .pointer (some ⟨b, 0, none⟩))
    (hown : w.ownsRow 0 5 1 v n xs) (hne : v.ownBlock ≠ some b) :
    Calls Tryz.prog 192 #[.pointer (some ⟨b, 0, none⟩)] w fun e w' => e = .returned (.tuple #[]) ∧ w'.heap[b]? = some (.cells #[.pointer (some ⟨b, 0, none⟩), v] 141 (0, 0)) ∧
      w'.ownsRow 0 5 1 v n xs ∧ w'.heap.size = w.heap.size ∧ WrKeep b v.ownBlock w w' ∧ ∀ k, k ≠ b → w'.heap[k]? = w.heap[k]? := by
  rcases hp with rfl | rfl
  · refine (Tryz.bcFresh b w v hb).mono ?_
    rintro e w' ⟨rfl, rfl⟩
    refine ⟨rfl, by simp [World.setCell, Array.getElem?_modify, hb], ?_, by simp [World.setCell], WrKeep.setCell _ _ _ _ _, fun k hk => heap_setCell_ne hk⟩
    exact hown.kept (row := some b) ⟨rfl, rfl, rfl, by simp [World.setCell], fun k _ hk => heap_setCell_ne (fun e => hk (by simp [e]))⟩ (.inr hne)
  · refine (Tryz.bcUsed b w v hb).mono ?_
    rintro e w' ⟨rfl, rfl⟩
    exact ⟨rfl, hb, hown, rfl, WrKeep.refl _ _ _, fun _ _ => rfl⟩

end Go.Proofs
end
section
namespace Go.Ab

theorem keep_below {g : G} {w' : World} (h : RowKit.Below g.w.heap.size g.w w') : Keep g { g with w := w' } where
  len := Nat.le_refl _
  ptr _ _ := rfl
  rooms _ _ e h := ⟨e, h, Nat.le_refl _, fun _ => rfl⟩
  size := h.size
  cells a x hx _ := by rw [← hx]; simp only [World.cell?]; rw [h.block _ (cell_lt hx)]
  regs _ _ h := h
  blocks b hb _ := h.block b hb
  io := ⟨h.os, h.output⟩
  xs _ h := h
  xcell a ha _ := by simp only [World.cell?, World.frozen?]; rw [h.block _ ha]; exact ⟨rfl, rfl⟩
  xblk b hb _ := h.block b hb

theorem sim_below {g : G} {w' : World} (h : RowKit.Below g.w.heap.size g.w w') (s : Sim g) : Sim { g with w := w' } where
  fct := s.fct.keep (keep_below h)
  blk i cells hi := by
    obtain ⟨xs, T, h1, h2, h3, h4⟩ := s.blk i cells hi
    exact ⟨xs, T, (h.block _ (blk_lt s hi)).trans h1, h2, fun j hj => (h3 j hj).keep (keep_below h), h4⟩
  iter i t pos hi := (h.block _ (iter_lt s hi)).trans (s.iter i t pos hi)
  room t e ht k hk := by
    obtain ⟨x, h1, h2⟩ := s.room t e ht k hk
    have hb := cell_lt h1
    refine ⟨x, ?_, ?_⟩
    · simp only [World.cell?] at h1 ⊢; rw [h.block _ hb]; exact h1
    · simp only [World.frozen?] at h2 ⊢; rw [h.block _ hb]; exact h2
  disj := s.disj
  inb a ha := Nat.lt_of_lt_of_le (s.inb a ha) h.size
  xdis := s.xdis
  mapo i es hi := by
    obtain ⟨o', h1, h2⟩ := s.mapo i es hi
    exact ⟨o', (h.block _ (mapo_lt s hi)).trans h1, h2.keep (keep_below h)⟩
  opq i φ hi := by
    have e1 := h.block _ (whole_lt s hi (.inl rfl))
    have e2 := h.block _ (whole_lt s hi (.inr rfl))
    show φ _ _ (w'.heap[g.β i]?) (w'.heap[(g.ρ i).b]?)
    rw [e1, e2]; exact s.opq i φ hi
  own i P cur hi := s.ownKeep (keep_below h).toKeep0 (fun a ha => Nat.lt_of_lt_of_le (s.inb a ha) h.size) hi hi rfl rfl fun b hb => h.block _ (whole_lt s hi hb)
  arr i z els hi := (s.arr i z els hi).keep0 (keep_below h).toKeep0 fun hne => h.block _ (whole_lt s hi ⟨hne, rfl⟩)
  mapr i es vis cur t hi := by
    obtain ⟨t1, t2, o', oi, h1, h2, h3⟩ := s.mapr i es vis cur t hi
    exact ⟨t1, t2, o', oi, (h.block _ (whole_lt s hi (.inl rfl))).trans h1, (h.block _ (whole_lt s hi (.inr rfl))).trans h2, h3.keep (keep_below h)⟩

end Go.Ab
end
section
namespace Go.Ab
/-- The fact at the types from 100 i to 100 i + 99. -/
def partB (f : Nat → Bool) (n i : Nat) : Bool := (List.range 100).all fun j => !decide (100 * i + j < n) || f (100 * i + j)
theorem of_parts {f : Nat → Bool} {n k : Nat} (hk : n ≤ 100 * k) (h : ∀ i, i < k → partB f n i = true) : (List.range n).all f = true := by
  refine List.all_eq_true.2 fun t ht => ?_
  have ht' : t < n := List.mem_range.1 ht
  have h1 := List.all_eq_true.1 (h (t / 100) (by omega)) (t % 100) (List.mem_range.2 (by omega))
  have e : 100 * (t / 100) + t % 100 = t := by omega
  rw [e] at h1
  simpa [ht'] using h1
end Go.Ab
end

import Derived.Test.YtoiieebljbhpbaaGreatDoorAb9
import Derived.Deep.AppendSrc
import Derived.Laws.AppendOwn
import Derived.Lib.Builder
namespace Go.Ab
theorem opq_turn {g : G} (s : Sim g) {i : Nat} {φ φ' : Opq} (hM : g.M[i]? = some (.opq φ)) {w' : World} {rb : Nat} (hsize : g.w.heap.size ≤ w'.heap.size) (io : SameIO g.w w')
  (hblk : ∀ k, k < g.w.heap.size → k ≠ g.β i → k ≠ (g.ρ i).b → w'.heap[k]? = g.w.heap[k]?)
  (hrb : rb = (g.ρ i).b ∨ rb = g.β i ∨ (g.w.heap.size ≤ rb ∧ rb < w'.heap.size)) (hφ : φ' (g.β i) rb (w'.heap[g.β i]?) (w'.heap[rb]?)) :
  Keep g ⟨g.M.set i (.opq φ'), g.β, upd g.ρ i ⟨rb, 0, 0, nobs⟩, w', g.X⟩ ∧ Sim ⟨g.M.set i (.opq φ'), g.β, upd g.ρ i ⟨rb, 0, 0, nobs⟩, w', g.X⟩ := by
 have hil : i < g.M.length := by
  rcases Nat.lt_or_ge i g.M.length with h | h
  ·exact h
  ·simp [List.getElem?_eq_none h] at hM
 have cov1 : ∀ off, (qau.opq φ).covers (g.β i) (g.ρ i) ⟨g.β i, off, none⟩ := fun _ => .inl rfl;have cov2 : ∀ off, (qau.opq φ).covers (g.β i) (g.ρ i) ⟨(g.ρ i).b, off, none⟩ := fun _ => .inr rfl
 have get : ∀ {j : Nat} {o : qau}, (g.M.set i (.opq φ'))[j]? = some o → (j ≠ i ∧ g.M[j]? = some o) ∨ (j = i ∧ o = .opq φ') := by
  intro j o h;rw [List.getElem?_set] at h;by_cases hj : i = j
  ·subst hj;rw [if_pos rfl, if_pos hil] at h;exact .inr ⟨rfl, (Option.some.inj h).symm⟩
  ·rw [if_neg hj] at h;exact .inl ⟨fun e => hj e.symm, h⟩
 have other : ∀ {j : Nat} {o : qau} {a : Addr}, j ≠ i → g.M[j]? = some o → o.covers (g.β j) (g.ρ j) a → a.block ≠ g.β i ∧ a.block ≠ (g.ρ i).b := by
  intro j o a hj ho hc;refine ⟨fun e => hj (s.disj j i o _ a ho hM hc (.inl e)), fun e => hj (s.disj j i o _ a ho hM hc (.inr e))⟩
 have heap : ∀ {j : Nat} {o : qau} {a : Addr}, j ≠ i → g.M[j]? = some o → o.covers (g.β j) (g.ρ j) a → w'.heap[a.block]? = g.w.heap[a.block]? := by
  intro j o a hj ho hc;exact hblk _ (s.inb a (Lk ho hc)) (other hj ho hc).1 (other hj ho hc).2
 have unreg : ∀ {a : Addr}, ¬ g.reg a → a.block ≠ g.β i ∧ a.block ≠ (g.ρ i).b := by
  intro a h;exact ⟨fun e => h (Lk hM (.inl e)), fun e => h (Lk hM (.inr e))⟩
 have regs : ∀ a, a.block < g.w.heap.size → ¬ g.reg a → ¬ (⟨g.M.set i (.opq φ'), g.β, upd g.ρ i ⟨rb, 0, 0, nobs⟩, w', g.X⟩ : G).reg a := by
  intro a ha hr hr';rcases hr' with hr' | ⟨j, o, hj, hc⟩
  ·exact hr (.inl hr')
  rcases get hj with ⟨hne, hj'⟩ | ⟨rfl, rfl⟩
  ·exact hr (Lk hj' (by simpa [Lc _ _ hne] using hc))
  ·have hc' : a.block = g.β j ∨ a.block = rb := by simpa [qau.covers] using hc
   have h2 := unreg hr;rcases hc' with h | h
   ·exact h2.1 h
   ·rcases hrb with h' | h' | h'
    ·exact h2.2 (h.trans h')
    ·exact h2.1 (h.trans h')
    ·omega
 have xne : ∀ {a : Addr}, g.X a → a.block ≠ g.β i ∧ a.block ≠ (g.ρ i).b := fun h =>
  ⟨fun e => s.xdis _ h ⟨i, _, hM, .inl e⟩, fun e => s.xdis _ h ⟨i, _, hM, .inr e⟩⟩
 have k : Keep g ⟨g.M.set i (.opq φ'), g.β, upd g.ρ i ⟨rb, 0, 0, nobs⟩, w', g.X⟩ := by
  refine ⟨⟨by simp, fun _ _ => rfl, fun t ht e' he' => ?_, hsize, fun a x hx hr => ?_, regs, fun b hb hr => ?_, io⟩, fun _ h => h, fun a ha hx => ?_, fun b hb hx => ?_⟩
  ·rcases get he' with ⟨hne, h⟩ | ⟨_, h⟩
   ·exact ⟨e', h, Nat.le_refl _, fun _ => Lc _ _ hne⟩
   ·cases h
  ·rw [← hx]; simp only [World.cell?]; rw [hblk _ (cell_lt hx) (unreg hr).1 (unreg hr).2]
  ·exact hblk b hb (unreg (hr 0)).1 (unreg (hr 0)).2
  ·simp only [World.cell?, World.frozen?]; rw [hblk _ ha (xne hx).1 (xne hx).2]; exact ⟨rfl, rfl⟩
  ·exact hblk b hb (xne (hx 0)).1 (xne (hx 0)).2
 have hin : ∀ a, (⟨g.M.set i (.opq φ'), g.β, upd g.ρ i ⟨rb, 0, 0, nobs⟩, w', g.X⟩ : G).reg a → a.block < w'.heap.size := by
  intro a ha;rcases ha with ha | ⟨j, o, hj, hc⟩
  ·exact Nat.lt_of_lt_of_le (s.inb a (.inl ha)) hsize
  rcases get hj with ⟨hne, hj'⟩ | ⟨rfl, rfl⟩
  ·exact Nat.lt_of_lt_of_le (s.inb a (Lk hj' (by simpa [Lc _ _ hne] using hc))) hsize
  ·have hc' : a.block = g.β j ∨ a.block = rb := by simpa [qau.covers] using hc
   have l1 := Ll s hM (.inl rfl);have l2 := Ll s hM (.inr rfl);show a.block < w'.heap.size;rcases hc' with h | h
   ·omega
   ·rcases hrb with h' | h' | h' <;> omega
 refine ⟨k, ?_⟩;refine ⟨s.fct.keep k, fun j cells hj => ?_, fun j t pos hj => ?_, fun t e ht q hq => ?_, fun j1 j2 o1 o2 a h1 h2 c1 c2 => ?_, fun a ha => ?_, fun a hx hr => ?_, fun j es hj => ?_, fun j es vis cur t hj => ?_, fun j ψ hj => ?_, fun j Po cur hj => ?_, fun j z els hj => ?_⟩
 ·rcases get hj with ⟨hne, h⟩ | ⟨_, h⟩
  ·obtain ⟨xs, T, h1, h2, h3, h4⟩ := s.blk j cells h;exact ⟨xs, T, (heap (a := ⟨g.β j, 0, none⟩) hne h rfl).trans h1, h2, fun q hq => (h3 q hq).keep k, h4⟩
  ·cases h
 ·rcases get hj with ⟨hne, h⟩ | ⟨_, h⟩
  ·exact (heap (a := ⟨g.β j, 0, none⟩) hne h rfl).trans (s.iter j t pos h)
  ·cases h
 ·rcases get ht with ⟨hne, h⟩ | ⟨_, h⟩
  ·simp only [Lc _ _ hne] at hq ⊢;obtain ⟨x, h1, h2⟩ := s.room t e h q hq;have hh := heap (a := ⟨(g.ρ t).b, (g.ρ t).off + q, none⟩) hne h (show _ ∧ _ ∧ _ from ⟨rfl, by simp only; omega, by simp only; omega⟩);simp only at hh;refine ⟨x, ?_, ?_⟩
   ·simp only [World.cell?] at h1 ⊢; rw [hh]; exact h1
   ·simp only [World.frozen?] at h2 ⊢; rw [hh]; exact h2
  ·cases h
 ·rcases get h1 with ⟨n1, g1⟩ | ⟨e1, rfl⟩ <;> rcases get h2 with ⟨n2, g2⟩ | ⟨e2, rfl⟩
  ·simp only [Lc _ _ n1, Lc _ _ n2] at c1 c2;exact s.disj j1 j2 o1 o2 a g1 g2 c1 c2
  ·exfalso;simp only [Lc _ _ n1] at c1;subst e2;have hc : a.block = g.β j2 ∨ a.block = rb := by simpa [qau.covers] using c2
   have ho := other n1 g1 c1;have hl := s.inb a (Lk g1 c1);rcases hc with h | h
   ·exact ho.1 h
   ·rcases hrb with h' | h' | h'
    ·exact ho.2 (h.trans h')
    ·exact ho.1 (h.trans h')
    ·omega
  ·exfalso;simp only [Lc _ _ n2] at c2;subst e1;have hc : a.block = g.β j1 ∨ a.block = rb := by simpa [qau.covers] using c1
   have ho := other n2 g2 c2;have hl := s.inb a (Lk g2 c2);rcases hc with h | h
   ·exact ho.1 h
   ·rcases hrb with h' | h' | h'
    ·exact ho.2 (h.trans h')
    ·exact ho.1 (h.trans h')
    ·omega
  ·rw [e1, e2]
 ·exact hin a ha
 ·obtain ⟨j, o, hj, hc⟩ := hr;have hx0 := xne hx;have hl := s.inb a (.inl hx);rcases get hj with ⟨hne, hj'⟩ | ⟨rfl, rfl⟩
  ·exact s.xdis a hx ⟨j, o, hj', by simpa [Lc _ _ hne] using hc⟩
  ·have hc' : a.block = g.β j ∨ a.block = rb := by simpa [qau.covers] using hc
   rcases hc' with h | h
   ·exact hx0.1 h
   ·rcases hrb with h' | h' | h'
    ·exact hx0.2 (h.trans h')
    ·exact hx0.1 (h.trans h')
    ·omega
 ·rcases get hj with ⟨hne, h⟩ | ⟨_, h⟩
  ·obtain ⟨o, h1, h2⟩ := s.mapo j es h;exact ⟨o, (heap (a := ⟨g.β j, 0, none⟩) hne h rfl).trans h1, h2.keep k⟩
  ·cases h
 ·rcases get hj with ⟨hne, h⟩ | ⟨_, h⟩
  ·obtain ⟨t1, t2, o, oi, h1, h2, h3⟩ := s.mapr j es vis cur t h;simp only [Lc _ _ hne];exact ⟨by simpa using t1, t2, o, oi, (heap (a := ⟨g.β j, 0, none⟩) hne h (.inl rfl)).trans h1, (heap (a := ⟨(g.ρ j).b, 0, none⟩) hne h (.inr rfl)).trans h2, h3.keep k⟩
  ·cases h
 ·rcases get hj with ⟨hne, h⟩ | ⟨rfl, h⟩
  ·have e1 := heap (a := ⟨g.β j, 0, none⟩) hne h (.inl rfl);have e2 := heap (a := ⟨(g.ρ j).b, 0, none⟩) hne h (.inr rfl);simp only at e1 e2;simp only [Lc _ _ hne];show ψ.rel ψ.bs _ _ (w'.heap[g.β j]?) (w'.heap[(g.ρ j).b]?);rw [e1, e2]; exact s.opq j ψ h
  ·cases h;simp only [Lo];exact hφ
 ·rcases get hj with ⟨hne, h⟩ | ⟨_, h⟩
  ·exact s.ownKeep k.toKeep0 hin h hj rfl (by simp [Lc _ _ hne]) fun b hb => heap (a := ⟨b, 0, none⟩) hne h (qau.whole.covers hb)
  ·cases h
 ·rcases get hj with ⟨hne, h⟩ | ⟨_, h⟩
  ·exact (s.arr j z els h).keep0 k.toKeep0 fun hz => heap (a := ⟨g.β j, 0, none⟩) hne h ⟨hz, rfl⟩
  ·cases h
theorem AWp.regAlloc {P : Program} {n B : Nat} {Q : Exit → St → Prop} {σ : St} {id d1 : Nat} {ops : Array Oper} {o1 : Oper} {T : TypeId} {z : Value} {cs : Array Value} (φ : Opq) (ho : ops.toList = [o1]) (ho1 : o1.op = .alloc T) (hg : o1.guard = none)
  (hd1 : o1.dst = some d1) (hd : dstsOk ops n ops.toList [] = true) (hn : noTags σ.A = true) (hz : ∀ w, (zeroValue T).run P w = .ok z w) (hc : z.cells = cs)
  (hφ : ∀ b o, φ b b (some (.cells cs T (0, 0))) o) {dead : List Nat} (h : Q .normal ⟨⟨d1, none, .ptr σ.M.length 0⟩ :: without dead (without [d1] σ.A), σ.M ++ [.opq φ]⟩) :
  AWp P n B (.region id ops false) Q σ := by
 obtain ⟨A, M⟩ := σ;intro g0 g a at_;have hgM : g.M = M := at_.mem
 have htags : tagsIn A [] := fun e he τ hτ => by
  have := List.all_eq_true.1 hn e he;simp [hτ] at this
 have hd' := hd;rw [ho] at hd';unfold dstsOk at hd';rw [hd1] at hd';simp only [Bool.and_eq_true] at hd';have htag : tagOf ops o1 = some none := by unfold tagOf; rw [hg]
 have hdl : d1 < a.tmps.size := by
  rw [at_.size];simpa using hd'.1
 refine wp_region_list ?_;rw [ho];unfold wpList;rw [wanted_iff htag];simp only [tagB, if_true];left
 have hrun : (Instr.alloc T true (.tuple #[])).run P g.w = .ok (.pointer (some ⟨g.w.heap.size, 0, none⟩)) { g.w with heap := g.w.heap.push (.cells cs T) } := by
  simp [Instr.alloc, hz, newVar, newRow, hc]
 have hDoes : Does P o1 a g.w (fun v' w'' => v' = .pointer (some ⟨g.w.heap.size, 0, none⟩) ∧ w'' = { g.w with heap := g.w.heap.push (.cells cs T) }) := by
  obtain ⟨dst, op, type, pos, after, guard⟩ := o1;simp only at ho1;subst ho1;unfold Does;show After P _ ((do pure (Next.value (← Instr.alloc T true (.tuple #[])))).run P g.w);rw [Sem.run_bind, hrun];exact ⟨rfl, rfl⟩
 refine hDoes.wp fun v' w'' hv => ?_;obtain ⟨rfl, rfl⟩ := hv;rw [hd1];have hcov : ∀ x, (qau.opq φ).covers g.w.heap.size (⟨g.w.heap.size, 0, 0, nobs⟩ : Room) x → x.block = g.w.heap.size := fun x hx => Or.elim hx (fun h => h) (fun h => h);have k := keep_add (g := g) (ao := .opq φ) (r := ⟨g.w.heap.size, 0, 0, nobs⟩) (w' := { g.w with heap := g.w.heap.push (.cells cs T) }) rfl hcov
 have s' := sim_add (g := g) (ao := .opq φ) (r := ⟨g.w.heap.size, 0, 0, nobs⟩) (w' := { g.w with heap := g.w.heap.push (.cells cs T) }) rfl hcov at_.sim
  (fun cs hcs => by cases hcs) (fun _ _ h => by cases h) (fun _ h => by cases h) (hopq := fun ψ hψ => by
   cases hψ;simp only [Array.getElem?_push_size];exact hφ _ _)
 have hr : R (g.add (.opq φ) ⟨g.w.heap.size, 0, 0, nobs⟩ { g.w with heap := g.w.heap.push (.cells cs T) }) (.ptr g.M.length 0) (.pointer (some ⟨g.w.heap.size, 0, none⟩)) := by
  have q : R (g.add (.opq φ) ⟨g.w.heap.size, 0, 0, nobs⟩ { g.w with heap := g.w.heap.push (.cells cs T) }) (.ptr g.M.length 0) (.pointer (some ⟨(g.add (.opq φ) ⟨g.w.heap.size, 0, 0, nobs⟩ { g.w with heap := g.w.heap.push (.cells cs T) }).β g.M.length, 0, none⟩)) :=
   .ptr _ _ (by simp [G.add])
  simp only [G.add, Lo] at q;exact q
 have hA' := (qbb.keep k at_.env).put (a := a) (dst := some d1) (tag := none) (fun d hd => by cases hd; exact ⟨hdl, free_of htags (by simp), fun τ hτ => by cases hτ⟩) hr;unfold wpList;refine ⟨_, g.add (.opq φ) ⟨g.w.heap.size, 0, 0, nobs⟩ { g.w with heap := g.w.heap.push (.cells cs T) }, h, rfl, at_.base, at_.ax, at_.keep.trans k, ?_, s', ?_, by rw [size_put]; exact at_.size, by rw [defers_put]; exact at_.defers⟩
 ·show g.M ++ _ = M ++ _;rw [hgM]
 ·intro t tag av he;rw [hgM] at hA';by_cases ht : d1 = t
  ·subst ht;refine hA' _ _ _ ?_;simpa [ent] using he
  ·refine hA' _ _ _ ?_;have he' : ent (without dead (without [d1] A)) t = some (tag, av) := by simpa [ent, ht] using he
   rw [without_ent] at he';split at he'
   ·cases he'
   rw [without_ent] at he';split at he'
   ·cases he'
   ·simpa [ent, ht] using he'
end Go.Ab

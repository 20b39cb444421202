import Derived.Test.YtpamnignoocogaaGreatDoorM07
import Derived.Deep.AppendSrc
import Derived.Laws.AppendOwn
import Derived.Lib.Builder
import Derived.Shelf.Strings.SlTrimAscii
import Derived.Shelf.Strings.Prefix
import Derived.Shelf.Slices.Turned
import Derived.Shelf.Strconv.Atoi
import Derived.WalkKit
import Derived.Test.YtpamnignoocogaaGreatDoorProg
section
namespace Go.Ab
theorem opq_turn {g : G} (s : Sim g) {i : Nat} {φ φ' : Opq} (hM : g.M[i]? = some (.opq φ)) {w' : World} {rb : Nat} (hsize : g.w.heap.size ≤ w'.heap.size) (io : SameIO g.w w')
  (hblk : ∀ k, k < g.w.heap.size → k ≠ g.β i → k ≠ (g.ρ i).b → w'.heap[k]? = g.w.heap[k]?)
  (hrb : rb = (g.ρ i).b ∨ rb = g.β i ∨ (g.w.heap.size ≤ rb ∧ rb < w'.heap.size)) (hφ : φ' (g.β i) rb (w'.heap[g.β i]?) (w'.heap[rb]?)) :
  Keep g ⟨g.M.set i (.opq φ'), g.β, upd g.ρ i ⟨rb, 0, 0, nobs⟩, w', g.X⟩ ∧ Sim ⟨g.M.set i (.opq φ'), g.β, upd g.ρ i ⟨rb, 0, 0, nobs⟩, w', g.X⟩ := by
 have hil : i < g.M.length := by
  rcases Nat.lt_or_ge i g.M.length with h | h
  ·exact h
  ·simp [List.getElem?_eq_none h] at hM
 have cov1 : ∀ off, (AObj.opq φ).covers (g.β i) (g.ρ i) ⟨g.β i, off, none⟩ := fun _ => .inl rfl;have cov2 : ∀ off, (AObj.opq φ).covers (g.β i) (g.ρ i) ⟨(g.ρ i).b, off, none⟩ := fun _ => .inr rfl
 have get : ∀ {j : Nat} {o : AObj}, (g.M.set i (.opq φ'))[j]? = some o → (j ≠ i ∧ g.M[j]? = some o) ∨ (j = i ∧ o = .opq φ') := by
  intro j o h;rw [List.getElem?_set] at h;by_cases hj : i = j
  ·subst hj;rw [if_pos rfl, if_pos hil] at h;exact .inr ⟨rfl, (Option.some.inj h).symm⟩
  ·rw [if_neg hj] at h;exact .inl ⟨fun e => hj e.symm, h⟩
 have other : ∀ {j : Nat} {o : AObj} {a : Addr}, j ≠ i → g.M[j]? = some o → o.covers (g.β j) (g.ρ j) a → a.block ≠ g.β i ∧ a.block ≠ (g.ρ i).b := by
  intro j o a hj ho hc;refine ⟨fun e => hj (s.disj j i o _ a ho hM hc (.inl e)), fun e => hj (s.disj j i o _ a ho hM hc (.inr e))⟩
 have heap : ∀ {j : Nat} {o : AObj} {a : Addr}, j ≠ i → g.M[j]? = some o → o.covers (g.β j) (g.ρ j) a → w'.heap[a.block]? = g.w.heap[a.block]? := by
  intro j o a hj ho hc;exact hblk _ (s.inb a (Lk ho hc)) (other hj ho hc).1 (other hj ho hc).2
 have unreg : ∀ {a : Addr}, ¬ g.reg a → a.block ≠ g.β i ∧ a.block ≠ (g.ρ i).b := by
  intro a h;exact ⟨fun e => h (Lk hM (.inl e)), fun e => h (Lk hM (.inr e))⟩
 have regs : ∀ a, a.block < g.w.heap.size → ¬ g.reg a → ¬ (⟨g.M.set i (.opq φ'), g.β, upd g.ρ i ⟨rb, 0, 0, nobs⟩, w', g.X⟩ : G).reg a := by
  intro a ha hr hr';rcases hr' with hr' | ⟨j, o, hj, hc⟩
  ·exact hr (.inl hr')
  rcases get hj with ⟨hne, hj'⟩ | ⟨rfl, rfl⟩
  ·exact hr (Lk hj' (by simpa [Lc _ _ hne] using hc))
  ·have hc' : a.block = g.β j ∨ a.block = rb := by simpa [AObj.covers] using hc
   have h2 := unreg hr;rcases hc' with h | h
   ·exact h2.1 h
   ·rcases hrb with h' | h' | h'
    ·exact h2.2 (h.trans h')
    ·exact h2.1 (h.trans h')
    ·omega
 have xne : ∀ {a : Addr}, g.X a → a.block ≠ g.β i ∧ a.block ≠ (g.ρ i).b := fun h =>
  ⟨fun e => s.xdis _ h ⟨i, _, hM, .inl e⟩, fun e => s.xdis _ h ⟨i, _, hM, .inr e⟩⟩
 have k : Keep g ⟨g.M.set i (.opq φ'), g.β, upd g.ρ i ⟨rb, 0, 0, nobs⟩, w', g.X⟩ := by
  refine ⟨⟨by simp, fun _ _ => rfl, fun t ht e' he' => ?_, hsize, fun a x hx hr => ?_, regs, fun b hb hr => ?_, io⟩, fun _ h => h, fun a ha hx => ?_, fun b hb hx => ?_⟩
  ·rcases get he' with ⟨hne, h⟩ | ⟨_, h⟩
   ·exact ⟨e', h, Nat.le_refl _, fun _ => Lc _ _ hne⟩
   ·cases h
  ·rw [← hx]; simp only [World.cell?]; rw [hblk _ (cell_lt hx) (unreg hr).1 (unreg hr).2]
  ·exact hblk b hb (unreg (hr 0)).1 (unreg (hr 0)).2
  ·simp only [World.cell?, World.frozen?]; rw [hblk _ ha (xne hx).1 (xne hx).2]; exact ⟨rfl, rfl⟩
  ·exact hblk b hb (xne (hx 0)).1 (xne (hx 0)).2
 have hin : ∀ a, (⟨g.M.set i (.opq φ'), g.β, upd g.ρ i ⟨rb, 0, 0, nobs⟩, w', g.X⟩ : G).reg a → a.block < w'.heap.size := by
  intro a ha;rcases ha with ha | ⟨j, o, hj, hc⟩
  ·exact Nat.lt_of_lt_of_le (s.inb a (.inl ha)) hsize
  rcases get hj with ⟨hne, hj'⟩ | ⟨rfl, rfl⟩
  ·exact Nat.lt_of_lt_of_le (s.inb a (Lk hj' (by simpa [Lc _ _ hne] using hc))) hsize
  ·have hc' : a.block = g.β j ∨ a.block = rb := by simpa [AObj.covers] using hc
   have l1 := Ll s hM (.inl rfl);have l2 := Ll s hM (.inr rfl);show a.block < w'.heap.size;rcases hc' with h | h
   ·omega
   ·rcases hrb with h' | h' | h' <;> omega
 refine ⟨k, ?_⟩;refine ⟨s.fct.keep k, fun j cells hj => ?_, fun j t pos hj => ?_, fun t e ht q hq => ?_, fun j1 j2 o1 o2 a h1 h2 c1 c2 => ?_, fun a ha => ?_, fun a hx hr => ?_, fun j es hj => ?_, fun j es vis cur t hj => ?_, fun j ψ hj => ?_, fun j Po cur hj => ?_, fun j z els hj => ?_⟩
 ·rcases get hj with ⟨hne, h⟩ | ⟨_, h⟩
  ·obtain ⟨xs, T, h1, h2, h3, h4⟩ := s.blk j cells h;exact ⟨xs, T, (heap (a := ⟨g.β j, 0, none⟩) hne h rfl).trans h1, h2, fun q hq => (h3 q hq).keep k, h4⟩
  ·cases h
 ·rcases get hj with ⟨hne, h⟩ | ⟨_, h⟩
  ·exact (heap (a := ⟨g.β j, 0, none⟩) hne h rfl).trans (s.iter j t pos h)
  ·cases h
 ·rcases get ht with ⟨hne, h⟩ | ⟨_, h⟩
  ·simp only [Lc _ _ hne] at hq ⊢;obtain ⟨x, h1, h2⟩ := s.room t e h q hq;have hh := heap (a := ⟨(g.ρ t).b, (g.ρ t).off + q, none⟩) hne h (show _ ∧ _ ∧ _ from ⟨rfl, by simp only; omega, by simp only; omega⟩);simp only at hh;refine ⟨x, ?_, ?_⟩
   ·simp only [World.cell?] at h1 ⊢; rw [hh]; exact h1
   ·simp only [World.frozen?] at h2 ⊢; rw [hh]; exact h2
  ·cases h
 ·rcases get h1 with ⟨n1, g1⟩ | ⟨e1, rfl⟩ <;> rcases get h2 with ⟨n2, g2⟩ | ⟨e2, rfl⟩
  ·simp only [Lc _ _ n1, Lc _ _ n2] at c1 c2;exact s.disj j1 j2 o1 o2 a g1 g2 c1 c2
  ·exfalso;simp only [Lc _ _ n1] at c1;subst e2;have hc : a.block = g.β j2 ∨ a.block = rb := by simpa [AObj.covers] using c2
   have ho := other n1 g1 c1;have hl := s.inb a (Lk g1 c1);rcases hc with h | h
   ·exact ho.1 h
   ·rcases hrb with h' | h' | h'
    ·exact ho.2 (h.trans h')
    ·exact ho.1 (h.trans h')
    ·omega
  ·exfalso;simp only [Lc _ _ n2] at c2;subst e1;have hc : a.block = g.β j1 ∨ a.block = rb := by simpa [AObj.covers] using c1
   have ho := other n2 g2 c2;have hl := s.inb a (Lk g2 c2);rcases hc with h | h
   ·exact ho.1 h
   ·rcases hrb with h' | h' | h'
    ·exact ho.2 (h.trans h')
    ·exact ho.1 (h.trans h')
    ·omega
  ·rw [e1, e2]
 ·exact hin a ha
 ·obtain ⟨j, o, hj, hc⟩ := hr;have hx0 := xne hx;have hl := s.inb a (.inl hx);rcases get hj with ⟨hne, hj'⟩ | ⟨rfl, rfl⟩
  ·exact s.xdis a hx ⟨j, o, hj', by simpa [Lc _ _ hne] using hc⟩
  ·have hc' : a.block = g.β j ∨ a.block = rb := by simpa [AObj.covers] using hc
   rcases hc' with h | h
   ·exact hx0.1 h
   ·rcases hrb with h' | h' | h'
    ·exact hx0.2 (h.trans h')
    ·exact hx0.1 (h.trans h')
    ·omega
 ·rcases get hj with ⟨hne, h⟩ | ⟨_, h⟩
  ·obtain ⟨o, h1, h2⟩ := s.mapo j es h;exact ⟨o, (heap (a := ⟨g.β j, 0, none⟩) hne h rfl).trans h1, h2.keep k⟩
  ·cases h
 ·rcases get hj with ⟨hne, h⟩ | ⟨_, h⟩
  ·obtain ⟨t1, t2, o, oi, h1, h2, h3⟩ := s.mapr j es vis cur t h;simp only [Lc _ _ hne];exact ⟨by simpa using t1, t2, o, oi, (heap (a := ⟨g.β j, 0, none⟩) hne h (.inl rfl)).trans h1, (heap (a := ⟨(g.ρ j).b, 0, none⟩) hne h (.inr rfl)).trans h2, h3.keep k⟩
  ·cases h
 ·rcases get hj with ⟨hne, h⟩ | ⟨rfl, h⟩
  ·have e1 := heap (a := ⟨g.β j, 0, none⟩) hne h (.inl rfl);have e2 := heap (a := ⟨(g.ρ j).b, 0, none⟩) hne h (.inr rfl);simp only at e1 e2;simp only [Lc _ _ hne];show ψ.rel ψ.bs _ _ (w'.heap[g.β j]?) (w'.heap[(g.ρ j).b]?);rw [e1, e2]; exact s.opq j ψ h
  ·cases h;simp only [Lm];exact hφ
 ·rcases get hj with ⟨hne, h⟩ | ⟨_, h⟩
  ·exact s.ownKeep k.toKeep0 hin h hj rfl (by simp [Lc _ _ hne]) fun b hb => heap (a := ⟨b, 0, none⟩) hne h (AObj.whole.covers hb)
  ·cases h
 ·rcases get hj with ⟨hne, h⟩ | ⟨_, h⟩
  ·exact (s.arr j z els h).keep0 k.toKeep0 fun hz => heap (a := ⟨g.β j, 0, none⟩) hne h ⟨hz, rfl⟩
  ·cases h
theorem AWp.regAlloc {P : Program} {n B : Nat} {Q : Exit → St → Prop} {σ : St} {id d1 : Nat} {ops : Array Oper} {o1 : Oper} {T : TypeId} {z : Value} {cs : Array Value} (φ : Opq) (ho : ops.toList = [o1]) (ho1 : o1.op = .alloc T) (hg : o1.guard = none)
  (hd1 : o1.dst = some d1) (hd : dstsOk ops n ops.toList [] = true) (hn : noTags σ.A = true) (hz : ∀ w, (zeroValue T).run P w = .ok z w) (hc : z.cells = cs)
  (hφ : ∀ b o, φ b b (some (.cells cs T (0, 0))) o) {dead : List Nat} (h : Q .normal ⟨⟨d1, none, .ptr σ.M.length 0⟩ :: without dead (without [d1] σ.A), σ.M ++ [.opq φ]⟩) :
  AWp P n B (.region id ops false) Q σ := by
 obtain ⟨A, M⟩ := σ;intro g0 g a at_;have hgM : g.M = M := at_.mem
 have htags : tagsIn A [] := fun e he τ hτ => by
  have := List.all_eq_true.1 hn e he;simp [hτ] at this
 have hd' := hd;rw [ho] at hd';unfold dstsOk at hd';rw [hd1] at hd';simp only [Bool.and_eq_true] at hd';have htag : tagOf ops o1 = some none := by unfold tagOf; rw [hg]
 have hdl : d1 < a.tmps.size := by
  rw [at_.size];simpa using hd'.1
 refine wp_region_list ?_;rw [ho];unfold wpList;rw [wanted_iff htag];simp only [tagB, if_true];left
 have hrun : (Instr.alloc T true (.tuple #[])).run P g.w = .ok (.pointer (some ⟨g.w.heap.size, 0, none⟩)) { g.w with heap := g.w.heap.push (.cells cs T) } := by
  simp [Instr.alloc, hz, newVar, newRow, hc]
 have hDoes : Does P o1 a g.w (fun v' w'' => v' = .pointer (some ⟨g.w.heap.size, 0, none⟩) ∧ w'' = { g.w with heap := g.w.heap.push (.cells cs T) }) := by
  obtain ⟨dst, op, type, pos, after, guard⟩ := o1;simp only at ho1;subst ho1;unfold Does;show After P _ ((do pure (Next.value (← Instr.alloc T true (.tuple #[])))).run P g.w);rw [Sem.run_bind, hrun];exact ⟨rfl, rfl⟩
 refine hDoes.wp fun v' w'' hv => ?_;obtain ⟨rfl, rfl⟩ := hv;rw [hd1];have hcov : ∀ x, (AObj.opq φ).covers g.w.heap.size (⟨g.w.heap.size, 0, 0, nobs⟩ : Room) x → x.block = g.w.heap.size := fun x hx => Or.elim hx (fun h => h) (fun h => h);have k := keep_add (g := g) (ao := .opq φ) (r := ⟨g.w.heap.size, 0, 0, nobs⟩) (w' := { g.w with heap := g.w.heap.push (.cells cs T) }) rfl hcov
 have s' := sim_add (g := g) (ao := .opq φ) (r := ⟨g.w.heap.size, 0, 0, nobs⟩) (w' := { g.w with heap := g.w.heap.push (.cells cs T) }) rfl hcov at_.sim
  (fun cs hcs => by cases hcs) (fun _ _ h => by cases h) (fun _ h => by cases h) (hopq := fun ψ hψ => by
   cases hψ;simp only [Array.getElem?_push_size];exact hφ _ _)
 have hr : R (g.add (.opq φ) ⟨g.w.heap.size, 0, 0, nobs⟩ { g.w with heap := g.w.heap.push (.cells cs T) }) (.ptr g.M.length 0) (.pointer (some ⟨g.w.heap.size, 0, none⟩)) := by
  have q : R (g.add (.opq φ) ⟨g.w.heap.size, 0, 0, nobs⟩ { g.w with heap := g.w.heap.push (.cells cs T) }) (.ptr g.M.length 0) (.pointer (some ⟨(g.add (.opq φ) ⟨g.w.heap.size, 0, 0, nobs⟩ { g.w with heap := g.w.heap.push (.cells cs T) }).β g.M.length, 0, none⟩)) :=
   .ptr _ _ (by simp [G.add])
  simp only [G.add, Lm] at q;exact q
 have hA' := (EnvRel.keep k at_.env).put (a := a) (dst := some d1) (tag := none) (fun d hd => by cases hd; exact ⟨hdl, free_of htags (by simp), fun τ hτ => by cases hτ⟩) hr;unfold wpList;refine ⟨_, g.add (.opq φ) ⟨g.w.heap.size, 0, 0, nobs⟩ { g.w with heap := g.w.heap.push (.cells cs T) }, h, rfl, at_.base, at_.ax, at_.keep.trans k, ?_, s', ?_, by rw [size_put]; exact at_.size, by rw [defers_put]; exact at_.defers⟩
 ·show g.M ++ _ = M ++ _;rw [hgM]
 ·intro t tag av he;rw [hgM] at hA';by_cases ht : d1 = t
  ·subst ht;refine hA' _ _ _ ?_;simpa [ent] using he
  ·refine hA' _ _ _ ?_;have he' : ent (without dead (without [d1] A)) t = some (tag, av) := by simpa [ent, ht] using he
   rw [without_ent] at he';split at he'
   ·cases he'
   rw [without_ent] at he';split at he'
   ·cases he'
   ·simpa [ent, ht] using he'
end Go.Ab
end
section
namespace Go.Ab
def wrO (T E : TypeId) (bs : List Int) : Opq := ⟨bs, some (T, E)⟩
def wrX : Opq := ⟨[], none⟩
theorem wr_fresh (T E : TypeId) (b : Nat) (o : Option Obj) : (wrO T E []) b b (some (.cells #[.pointer none, .slice none 0 0] T (0, 0))) o :=
 show WrB T E [] b b _ o from ⟨_, _, rfl, .inl rfl, .inl ⟨rfl, rfl, rfl⟩⟩
theorem WrB.at {T E : TypeId} {bs : List Int} {b rb : Nat} {w : World} (h : WrB T E bs b rb (w.heap[b]?) (w.heap[rb]?)) :
  ∃ p v, w.heap[b]? = some (.cells #[p, v] T (0, 0)) ∧ (p = .pointer none ∨ p = .pointer (some ⟨b, 0, none⟩)) ∧ w.ownsRow 0 E 1 v bs.length (bs.map (Value.int .u8)) ∧
    v.ownBlock ≠ some b ∧ ((v.ownBlock = none ∧ rb = b) ∨ v.ownBlock = some rb) := by
 obtain ⟨p, v, h1, h2, h3⟩ := h;refine ⟨p, v, h1, h2, ?_⟩;rcases h3 with ⟨rfl, rfl, rfl⟩ | ⟨cap, cur, rfl, hne, ho, hc, hm, hs, ht⟩
 ·exact ⟨⟨by simp, .inl ⟨rfl, rfl⟩⟩, by simp [Value.ownBlock], .inl ⟨rfl, rfl⟩⟩
 ·exact ⟨⟨by simp, .inr ⟨rb, cap, cur, rfl, Nat.zero_le _, ho, hc, hm, by simpa using hs, by simpa using ht⟩⟩, by simpa [Value.ownBlock] using hne, .inr rfl⟩
theorem WrB.of {T E : TypeId} {bs : List Int} {b : Nat} {p v : Value} {w : World} (h1 : w.heap[b]? = some (.cells #[p, v] T (0, 0))) (h2 : p = .pointer none ∨ p = .pointer (some ⟨b, 0, none⟩))
  (h3 : w.ownsRow 0 E 1 v bs.length (bs.map (Value.int .u8))) (h4 : v.ownBlock ≠ some b) : WrB T E bs b (v.ownBlock.getD b) (w.heap[b]?) (w.heap[v.ownBlock.getD b]?) := by
 refine ⟨p, v, h1, h2, ?_⟩;rcases h3.2 with ⟨rfl, hn⟩ | ⟨g, cap, cur, rfl, _, ho, hc, hm, hs, ht⟩
 ·exact .inl ⟨rfl, List.eq_nil_of_length_eq_zero hn, rfl⟩
 ·simp only [Value.ownBlock, ne_eq, Option.some.injEq, Option.getD_some] at h4 ⊢;exact .inr ⟨cap, cur, rfl, h4, ho, hc, hm, by simpa using hs, by simpa using ht⟩
structure WrKeep (b : Nat) (ob : Option Nat) (w w' : World) : Prop where
 size : w.heap.size ≤ w'.heap.size
 os : w'.os = w.os
 output : w'.output = w.output
 block : ∀ k, k < w.heap.size → k ≠ b → some k ≠ ob → w'.heap[k]? = w.heap[k]?
theorem WrKeep.refl (b : Nat) (ob : Option Nat) (w : World) : WrKeep b ob w w := ⟨Nat.le_refl _, rfl, rfl, fun _ _ _ _ => rfl⟩
theorem WrKeep.trans {b : Nat} {ob : Option Nat} {w w' w'' : World} (h : WrKeep b ob w w') (h' : WrKeep b ob w' w'') : WrKeep b ob w w'' :=
 ⟨Nat.le_trans h.size h'.size, h'.os.trans h.os, h'.output.trans h.output, fun k h1 h2 h3 => (h'.block k (Nat.lt_of_lt_of_le h1 h.size) h2 h3).trans (h.block k h1 h2 h3)⟩
theorem WrKeep.grown {b : Nat} {ob : Option Nat} {w w' : World} (h : w.grownBy w' ob) : WrKeep b ob w w' := ⟨h.size, h.os, h.output, fun k h1 _ h3 => h.block k h1 h3⟩
theorem heap_setCell_ne {w : World} {b off k : Nat} {v : Value} (h : k ≠ b) : (w.setCell ⟨b, off, none⟩ v).heap[k]? = w.heap[k]? := by
 simp only [World.setCell, Array.getElem?_modify];rw [if_neg (fun e => h e.symm)]
theorem WrKeep.setCell (b off : Nat) (ob : Option Nat) (w : World) (v : Value) : WrKeep b ob w (w.setCell ⟨b, off, none⟩ v) :=
 ⟨by simp [World.setCell], rfl, rfl, fun _ _ h2 _ => heap_setCell_ne h2⟩
theorem run_append_w {P : Program} (w : World) (t tx ty e : TypeId) (i : TypeInfo) (z : Value) (ht : P.underlying t = some (.slice e)) (hi : P.info? e = some i) (hz : i.zero = some z)
  (hsize : i.size = 1) (hby : i.bytes = 1) (hzs : z.cells.size = 1) (v : Value) (n : Nat) (xs : List Value) (hown : w.ownsRow 0 e 1 v n xs) (x : Value) (m : Nat) (news : List Value) (hs : Src P 1 tx x m news w)
  (hm : 0 < m) (hbytes : n + m ≤ 140737488355328) :
  ∃ v' w', (Builtin.append_ #[t, tx] ty #[v, x]).run P w = .ok v' w' ∧ w'.ownsRow 0 e 1 v' (n + m) (xs ++ news) ∧ w.grownBy w' v.ownBlock ∧ (v'.ownBlock = v.ownBlock ∨ v'.ownBlock = some w.heap.size) ∧ v'.ownBlock ≠ none := by
 have hl : news.length = m := by simpa using hs.newsLen
 have hx : xs.length = n := by simpa using hown.1
 have hlen : (xs ++ news).length = (n + m) * 1 := by rw [List.length_append, hl, hx, Nat.mul_one]
 have h63 : n + m ≤ maxLen := by simp only [maxLen]; omega
 have hs' : Src P i.size tx x m news w := by rw [hsize]; exact hs
 have grow : ∀ (base : Option Addr) (cap : Nat), cap < n + m → v = .slice base n cap → (Builtin.firstCells i.size n (.slice base n cap)).run P w.drew = .ok xs.toArray w.drew → ∀ row,
   ∃ v' w', (Builtin.append_ #[t, tx] ty #[v, x]).run P w = .ok v' w' ∧ w'.ownsRow 0 e 1 v' (n + m) (xs ++ news) ∧ w.grownBy w' row ∧ (v'.ownBlock = v.ownBlock ∨ v'.ownBlock = some w.heap.size) ∧ v'.ownBlock ≠ none := by
  intro base cap hcap hv hf row;subst hv;have hr := run_append_grow_src (P := P) w t tx ty e i z ht hi hz base n cap xs hf x m news hs' hcap (by omega) (growslice_fits (by omega) (by rw [hby]; omega));refine ⟨_, _, hr, ⟨hlen, .inr ⟨w.heap.size, _, _, rfl, Nat.zero_le _, heap_alloc_new w.drew _, grownCap_ge w (n + m) cap e, grownCap_le_maxLen w (n + m) cap e h63, ?_, ?_⟩⟩, ⟨rfl, rfl, rfl, by simp, fun k hk _ => heap_alloc_old w.drew _ hk⟩, .inr rfl, by simp [Value.ownBlock]⟩
  ·have hge := grownCap_ge w (n + m) cap e;simp only [Array.size_append, List.size_toArray, size_zeroCells, hzs, hlen];omega
  ·simp only [Array.toList_append];rw [← hlen];exact List.take_left
 rcases hown.2 with ⟨rfl, rfl⟩ | ⟨g, cap, cur, rfl, _, hg, hnc, hcm, hcs, htake⟩
 ·have : xs = [] := List.eq_nil_of_length_eq_zero hx;subst this;exact grow none 0 (by omega) rfl (run_firstCells_none w.drew i.size 0 0 0) _
 ·by_cases hroom : n + m ≤ cap
  ·have hcell : ∀ j, j < cur.size → w.cell? ⟨g, j, none⟩ = some (cur.getD j undef) := fun j hj => by simp [World.cell?, hg, hj]
   have hr := run_append_room_src (P := P) w t tx ty e i ht hi g 0 n cap x m news hs' hroom
    (fun j hj => by rw [hcell _ (by rw [hsize]; simp only [Nat.mul_one] at hcs ⊢; omega)]; rfl) (fun j _ => by simp [World.frozen?, hg])
   have hst := run_storeCells_at P g n e news 0 cur w hg (by simp only [Nat.mul_one] at hcs; simpa using (by omega : n + news.length ≤ cur.size)) hs.one;have hst2 := run_storeCells_cells (P := P) g n news 0 w (fun j hj => by rw [hcell _ (by simp only [Nat.mul_one] at hcs; omega)]; rfl) (fun j _ => by simp [World.frozen?, hg]) hs.one;simp only [Nat.add_zero] at hst hst2
   have hW : w.setCells g n news = w.setRow g (cur.toList.take n ++ news ++ cur.toList.drop (n + news.length)).toArray := by
    rw [hst] at hst2;injection hst2 with _ h
    exact h.symm
   rw [hsize] at hr;simp only [Nat.zero_add, Nat.mul_one] at hr hcs htake;rw [hW] at hr;refine ⟨_, _, hr, ⟨hlen, .inr ⟨g, cap, _, rfl, Nat.zero_le _, setRow_heap w g cur _ e _ hg, hroom, hcm, ?_, ?_⟩⟩, ⟨rfl, rfl, rfl, by simp, fun k _ hk => setRow_other w g k _ (fun e => hk (by simp [Value.ownBlock, e]))⟩, .inl rfl, by simp [Value.ownBlock]⟩
   ·simp only [List.size_toArray, List.length_append, List.length_take, List.length_drop, Array.length_toList];omega
   ·rw [htake, ← hlen];exact List.take_left
  ·have holds : ∀ j u, xs[j]? = some u → w.cell? ((⟨g, 0, none⟩ : Addr).add j) = some u := hown.cells (g := g) rfl;exact grow (some ⟨g, 0, none⟩) cap (by omega) rfl (by rw [hsize]; exact run_firstCells_some w.drew 1 n _ n cap xs (by simpa using hx) (by simpa using holds)) _
theorem wpList_append_w {P : Program} {w : World} {ops : Array Oper} {rest : List Oper} {o : Oper} {a : Act} {Q : Exit → Act → World → Prop} (hgd : o.guard = none) (s x : Operand) (t tx : TypeId)
  (ho : o.op = .call { callee := .builtin .append, args := #[s, x], argTypes := #[t, tx] }) (e : TypeId) (i : TypeInfo) (z : Value) (ht : P.underlying t = some (.slice e)) (hi : P.info? e = some i) (hz : i.zero = some z)
  (hsize : i.size = 1) (hby : i.bytes = 1) (hzs : z.cells.size = 1) (v : Value) (n : Nat) (xs : List Value) (hsv : a.eval s = v) (hown : w.ownsRow 0 e 1 v n xs) (y : Value) (hx : a.eval x = y) (m : Nat) (news : List Value) (hs : Src P 1 tx y m news w)
  (hm : 0 < m) (hbytes : n + m ≤ 140737488355328)
  (h : ∀ v' w', w'.ownsRow 0 e 1 v' (n + m) (xs ++ news) → w.grownBy w' v.ownBlock → (v'.ownBlock = v.ownBlock ∨ v'.ownBlock = some w.heap.size) → v'.ownBlock ≠ none → wpList P ops Q rest (a.put o.dst v') w') : wpList P ops Q (o :: rest) a w :=
 wpList_plain hgd fun K hK => by
  obtain ⟨v', w', hr, h2, h3, h4, h5⟩ := run_append_w (P := P) w t tx o.type e i z ht hi hz hsize hby hzs v n xs hown y m news hs hm hbytes;unfold Oper.wp execOp;simp only [ho, resolve, invoke, builtin, Sem.run_bind, Sem.run_pure, Result.andThen_ok, List.map_toArray, List.map_cons, List.map_nil, hsv, hx, hr];exact hK _ _ (h v' w' h2 h3 h4 h5)
end Go.Ab
end
section
namespace Go.Proofs
open Go.Shelf
def Tryz.laysTrim_ren : Go.Shelf.Ren := ⟨fun | 160 => 94 | 232 => 134 | 231 => 133 | 227 => 135 | 234 => 137 | 233 => 136 | 236 => 139 | 235 => 138 | 228 => 194 | 271 => 196 | 151 => 195 | 197 => 112 | 120 => 282 | 152 => 281 | 260 => 148 | 137 => 56 | 119 => 365 | 224 => 150 | 225 => 149 | 217 => 92 | 266 => 132 | n => n, fun | 9 => 9 | 4 => 4 | 3 => 3 | 5 => 5 | 117 => 219 | 116 => 218 | 0 => 0 | 124 => 222 | 21 => 21 | 105 => 188 | 46 => 85 | 119 => 173 | 139 => 349 | 138 => 348 | n => n, fun | 3 => 5 | 4 => 6 | n => n⟩
theorem Tryz.laysTrim : Go.Proofs.Lays.n160 Tryz.prog Tryz.laysTrim_ren := {
 mixed := by kernel_rfl
 f119 := Tryz.func365.trans (congrArg some (by kernel_rfl))
 f120 := Tryz.func282.trans (congrArg some (by kernel_rfl))
 f137 := Tryz.func56.trans (congrArg some (by kernel_rfl))
 f151 := Tryz.func195.trans (congrArg some (by kernel_rfl))
 f152 := Tryz.func281.trans (congrArg some (by kernel_rfl))
 f160 := Tryz.func94.trans (congrArg some (by kernel_rfl))
 f197 := Tryz.func112.trans (congrArg some (by kernel_rfl))
 f217 := Tryz.func92.trans (congrArg some (by kernel_rfl))
 f224 := Tryz.func150.trans (congrArg some (by kernel_rfl))
 f225 := Tryz.func149.trans (congrArg some (by kernel_rfl))
 f227 := Tryz.func135.trans (congrArg some (by kernel_rfl))
 f228 := Tryz.func194.trans (congrArg some (by kernel_rfl))
 f231 := Tryz.func133.trans (congrArg some (by kernel_rfl))
 f232 := Tryz.func134.trans (congrArg some (by kernel_rfl))
 f233 := Tryz.func136.trans (congrArg some (by kernel_rfl))
 f234 := Tryz.func137.trans (congrArg some (by kernel_rfl))
 f235 := Tryz.func138.trans (congrArg some (by kernel_rfl))
 f236 := Tryz.func139.trans (congrArg some (by kernel_rfl))
 f260 := Tryz.func148.trans (congrArg some (by kernel_rfl))
 f266 := Tryz.func132.trans (congrArg some (by kernel_rfl))
 f271 := Tryz.func196.trans (congrArg some (by kernel_rfl))
 t0 := Tryz.underlying0
 a0 := Tryz.isAgg0
 z0 := Tryz.sizeOf0
 v0 := Tryz.zeroValue0
 t3 := Tryz.underlying3
 a3 := Tryz.isAgg3
 z3 := Tryz.sizeOf3
 v3 := Tryz.zeroValue3
 t4 := Tryz.underlying4
 a4 := Tryz.isAgg4
 z4 := Tryz.sizeOf4
 v4 := Tryz.zeroValue4
 t5 := Tryz.underlying5
 a5 := Tryz.isAgg5
 z5 := Tryz.sizeOf5
 v5 := Tryz.zeroValue5
 t9 := Tryz.underlying9
 a9 := Tryz.isAgg9
 z9 := Tryz.sizeOf9
 v9 := Tryz.zeroValue9
 t21 := Tryz.underlying21
 a21 := Tryz.isAgg21
 z21 := Tryz.sizeOf21
 v21 := Tryz.zeroValue21
 t46 := Tryz.underlying85
 a46 := Tryz.isAgg85
 z46 := Tryz.sizeOf85
 v46 := Tryz.zeroValue85
 t105 := Tryz.underlying188
 a105 := Tryz.isAgg188
 z105 := Tryz.sizeOf188
 v105 := Tryz.zeroValue188
 t116 := Tryz.underlying218
 a116 := Tryz.isAgg218
 z116 := Tryz.sizeOf218
 t117 := Tryz.underlying219
 a117 := Tryz.isAgg219
 z117 := Tryz.sizeOf219
 v117 := Tryz.zeroValue219
 t119 := Tryz.underlying173
 a119 := Tryz.isAgg173
 z119 := Tryz.sizeOf173
 t124 := Tryz.underlying222
 a124 := Tryz.isAgg222
 z124 := Tryz.sizeOf222
 v124 := Tryz.zeroValue222
 t138 := Tryz.underlying348
 a138 := Tryz.isAgg348
 z138 := Tryz.sizeOf348
 v138 := Tryz.zeroValue348
 t139 := Tryz.underlying349
 a139 := Tryz.isAgg349
 z139 := Tryz.sizeOf349
 v139 := Tryz.zeroValue349
 g3 := by kernel_rfl
 g4 := by kernel_rfl }
def Tryz.laysHas_ren : Go.Shelf.Ren := ⟨fun | 110 => 32 | 109 => 58 | n => n, fun | 31 => 27 | 9 => 9 | 4 => 4 | 3 => 3 | 0 => 0 | n => n, fun | n => n⟩
theorem Tryz.laysHas : Go.Proofs.Lays.n110 Tryz.prog Tryz.laysHas_ren := {
 mixed := by kernel_rfl
 f109 := Tryz.func58.trans (congrArg some (by kernel_rfl))
 f110 := Tryz.func32.trans (congrArg some (by kernel_rfl))
 t0 := Tryz.underlying0
 a0 := Tryz.isAgg0
 z0 := Tryz.sizeOf0
 v0 := Tryz.zeroValue0
 t3 := Tryz.underlying3
 a3 := Tryz.isAgg3
 z3 := Tryz.sizeOf3
 v3 := Tryz.zeroValue3
 t4 := Tryz.underlying4
 a4 := Tryz.isAgg4
 z4 := Tryz.sizeOf4
 v4 := Tryz.zeroValue4
 t9 := Tryz.underlying9
 a9 := Tryz.isAgg9
 z9 := Tryz.sizeOf9
 v9 := Tryz.zeroValue9
 t31 := Tryz.underlying27
 a31 := Tryz.isAgg27
 z31 := Tryz.sizeOf27
 v31 := Tryz.zeroValue27 }
def Tryz.laysAtoi_ren : Go.Shelf.Ren := ⟨fun | 172 => 95 | 244 => 140 | 245 => 141 | 247 => 197 | 279 => 198 | 280 => 199 | 281 => 200 | 282 => 201 | 287 => 283 | 316 => 284 | 171 => 130 | 205 => 285 | 321 => 366 | 322 => 367 | 243 => 193 | 246 => 280 | 283 => 361 | 284 => 362 | 285 => 363 | 286 => 364 | 129 => 400 | 317 => 425 | 318 => 426 | 319 => 427 | 320 => 428 | 337 => 458 | 338 => 459 | n => n, fun | 9 => 9 | 3 => 3 | 75 => 83 | 76 => 141 | 4 => 4 | 5 => 5 | 167 => 335 | 37 => 77 | 0 => 0 | 85 => 336 | 2 => 2 | 168 => 338 | 53 => 114 | 175 => 451 | 46 => 85 | 210 => 454 | 127 => 118 | 145 => 571 | 143 => 569 | 21 => 21 | 171 => 563 | 173 => 566 | 212 => 640 | 51 => 116 | 20 => 20 | 213 => 641 | 232 => 672 | 233 => 673 | 80 => 86 | n => n, fun | 15 => 7 | 16 => 8 | 17 => 9 | 18 => 10 | 19 => 11 | n => n⟩
theorem Tryz.laysAtoi : Go.Proofs.Lays.n172 Tryz.prog Tryz.laysAtoi_ren := {
 mixed := by kernel_rfl
 f129 := Tryz.func400.trans (congrArg some (by kernel_rfl))
 f171 := Tryz.func130.trans (congrArg some (by kernel_rfl))
 f172 := Tryz.func95.trans (congrArg some (by kernel_rfl))
 f205 := Tryz.func285.trans (congrArg some (by kernel_rfl))
 f243 := Tryz.func193.trans (congrArg some (by kernel_rfl))
 f244 := Tryz.func140.trans (congrArg some (by kernel_rfl))
 f245 := Tryz.func141.trans (congrArg some (by kernel_rfl))
 f246 := Tryz.func280.trans (congrArg some (by kernel_rfl))
 f247 := Tryz.func197.trans (congrArg some (by kernel_rfl))
 f279 := Tryz.func198.trans (congrArg some (by kernel_rfl))
 f280 := Tryz.func199.trans (congrArg some (by kernel_rfl))
 f281 := Tryz.func200.trans (congrArg some (by kernel_rfl))
 f282 := Tryz.func201.trans (congrArg some (by kernel_rfl))
 f283 := Tryz.func361.trans (congrArg some (by kernel_rfl))
 f284 := Tryz.func362.trans (congrArg some (by kernel_rfl))
 f285 := Tryz.func363.trans (congrArg some (by kernel_rfl))
 f286 := Tryz.func364.trans (congrArg some (by kernel_rfl))
 f287 := Tryz.func283.trans (congrArg some (by kernel_rfl))
 f316 := Tryz.func284.trans (congrArg some (by kernel_rfl))
 f317 := Tryz.func425.trans (congrArg some (by kernel_rfl))
 f318 := Tryz.func426.trans (congrArg some (by kernel_rfl))
 f319 := Tryz.func427.trans (congrArg some (by kernel_rfl))
 f320 := Tryz.func428.trans (congrArg some (by kernel_rfl))
 f321 := Tryz.func366.trans (congrArg some (by kernel_rfl))
 f322 := Tryz.func367.trans (congrArg some (by kernel_rfl))
 f337 := Tryz.func458.trans (congrArg some (by kernel_rfl))
 f338 := Tryz.func459.trans (congrArg some (by kernel_rfl))
 t0 := Tryz.underlying0
 a0 := Tryz.isAgg0
 z0 := Tryz.sizeOf0
 v0 := Tryz.zeroValue0
 t2 := Tryz.underlying2
 a2 := Tryz.isAgg2
 z2 := Tryz.sizeOf2
 v2 := Tryz.zeroValue2
 t3 := Tryz.underlying3
 a3 := Tryz.isAgg3
 z3 := Tryz.sizeOf3
 v3 := Tryz.zeroValue3
 t4 := Tryz.underlying4
 a4 := Tryz.isAgg4
 z4 := Tryz.sizeOf4
 v4 := Tryz.zeroValue4
 t5 := Tryz.underlying5
 a5 := Tryz.isAgg5
 z5 := Tryz.sizeOf5
 v5 := Tryz.zeroValue5
 t9 := Tryz.underlying9
 a9 := Tryz.isAgg9
 z9 := Tryz.sizeOf9
 v9 := Tryz.zeroValue9
 t20 := Tryz.underlying20
 a20 := Tryz.isAgg20
 z20 := Tryz.sizeOf20
 v20 := Tryz.zeroValue20
 t21 := Tryz.underlying21
 a21 := Tryz.isAgg21
 z21 := Tryz.sizeOf21
 v21 := Tryz.zeroValue21
 t37 := Tryz.underlying77
 a37 := Tryz.isAgg77
 z37 := Tryz.sizeOf77
 v37 := Tryz.zeroValue77
 t46 := Tryz.underlying85
 a46 := Tryz.isAgg85
 z46 := Tryz.sizeOf85
 v46 := Tryz.zeroValue85
 t51 := Tryz.underlying116
 a51 := Tryz.isAgg116
 z51 := Tryz.sizeOf116
 v51 := Tryz.zeroValue116
 t53 := Tryz.underlying114
 a53 := Tryz.isAgg114
 z53 := Tryz.sizeOf114
 v53 := Tryz.zeroValue114
 t75 := Tryz.underlying83
 a75 := Tryz.isAgg83
 z75 := Tryz.sizeOf83
 v75 := Tryz.zeroValue83
 t76 := Tryz.underlying141
 a76 := Tryz.isAgg141
 z76 := Tryz.sizeOf141
 v76 := Tryz.zeroValue141
 t85 := Tryz.underlying336
 a85 := Tryz.isAgg336
 z85 := Tryz.sizeOf336
 v85 := Tryz.zeroValue336
 t127 := Tryz.underlying118
 a127 := Tryz.isAgg118
 z127 := Tryz.sizeOf118
 v127 := Tryz.zeroValue118
 t143 := Tryz.underlying569
 a143 := Tryz.isAgg569
 z143 := Tryz.sizeOf569
 v143 := Tryz.zeroValue569
 t145 := Tryz.underlying571
 a145 := Tryz.isAgg571
 z145 := Tryz.sizeOf571
 v145 := Tryz.zeroValue571
 t167 := Tryz.underlying335
 a167 := Tryz.isAgg335
 z167 := Tryz.sizeOf335
 v167 := Tryz.zeroValue335
 t168 := Tryz.underlying338
 a168 := Tryz.isAgg338
 z168 := Tryz.sizeOf338
 v168 := Tryz.zeroValue338
 t171 := Tryz.underlying563
 a171 := Tryz.isAgg563
 z171 := Tryz.sizeOf563
 v171 := Tryz.zeroValue563
 t173 := Tryz.underlying566
 a173 := Tryz.isAgg566
 z173 := Tryz.sizeOf566
 v173 := Tryz.zeroValue566
 t175 := Tryz.underlying451
 a175 := Tryz.isAgg451
 z175 := Tryz.sizeOf451
 v175 := Tryz.zeroValue451
 t210 := Tryz.underlying454
 a210 := Tryz.isAgg454
 z210 := Tryz.sizeOf454
 v210 := Tryz.zeroValue454
 t212 := Tryz.underlying640
 a212 := Tryz.isAgg640
 z212 := Tryz.sizeOf640
 v212 := Tryz.zeroValue640
 t213 := Tryz.underlying641
 a213 := Tryz.isAgg641
 z213 := Tryz.sizeOf641
 t232 := Tryz.underlying672
 a232 := Tryz.isAgg672
 z232 := Tryz.sizeOf672
 v232 := Tryz.zeroValue672
 t233 := Tryz.underlying673
 a233 := Tryz.isAgg673
 z233 := Tryz.sizeOf673
 v233 := Tryz.zeroValue673
 g15 := by kernel_rfl
 g16 := by kernel_rfl
 g17 := by kernel_rfl
 g18 := by kernel_rfl
 g19 := by kernel_rfl }
end Go.Proofs
end

/- Maps whose values own what they point to: the steps of a run at which an entry is opened and closed. No condition: over any program. -/
import Derived.Test.YtjjjeolcapebbaaGreatDoorM09
import Derived.Test.YtjjjeolcapebbaaGreatDoorM13
import Derived.Shelf.SlIterI.Nil
import Derived.Maps.OwnSet
import Derived.WideShapes
section
namespace Go.Ab
section
variable {n B : Nat} {A : Env} {M M' : List AObj}
variable {K T : Type} {key : Value → Prop} {kE : K → Value} {fl : T → AV} {N : T → List AObj} {V : T → AV} {eq : K → K → Bool}

end

section
variable {n B : Nat} {A : Env} {M M' : List AObj}
variable {T : Type} {key : Value → Prop} {kk : IntKind} {fl : T → AV} {N : T → List AObj} {V : T → AV}
end
attribute [simp] AObj.isRoom

/-! ### An array: the mark ahead of it, and its end -/
def frzO (i : Nat) (els : List (List AV)) : AObj → AObj
  | .blk cs => .blk (cs.map (lendA i els))
  | o => o
def frzE (i : Nat) (els : List (List AV)) (A : Env) : Env := A.map fun e => ⟨e.t, e.tag, lendB i els e.av⟩
def frzOk (i s : Nat) (els : List (List AV)) : List AObj → Prop
  | [] => True
  | .blk cs :: r => lendO i s els cs ∧ frzOk i s els r
  | _ :: r => frzOk i s els r
theorem lendO_get {i s : Nat} {els : List (List AV)} : ∀ {cs : List AV}, lendO i s els cs → ∀ j (hj : j < cs.length), ∀ k n z, cs[j] = .asl k n z → k = i → z = s ∧ n = lenL els
  | [], _, j, hj, _, _, _, _, _ => by simp at hj
  | c :: cs, ho, j, hj, k, n, z, he, hk => by
    cases j with
    | zero =>
      simp only [List.getElem_cons_zero] at he
      subst he
      exact ho.1 hk
    | succ j =>
      refine lendO_get (cs := cs) ?_ j (by simpa using hj) k n z (by simpa using he) hk
      cases c <;> first | exact ho.2 | exact ho
theorem frzOk_get {i s : Nat} {els : List (List AV)} : ∀ {M : List AObj}, frzOk i s els M → ∀ cs, AObj.blk cs ∈ M → lendO i s els cs
  | [], _, _, h => by cases h
  | o :: r, ho, cs, h => by
    rcases List.mem_cons.1 h with rfl | h
    · exact ho.1
    · refine frzOk_get (M := r) ?_ cs h
      cases o <;> first | exact ho.2 | exact ho
theorem lendP_mem {i s : Nat} {els : List (List AV)} : ∀ {l : List AV}, lendP i s els l → ∀ a ∈ l, (∀ cs, a = .agg cs → lendO i s els cs) ∧ ∀ k n z, a = .asl k n z → k = i → z = s ∧ n = lenL els
  | [], _, a, h => by cases h
  | c :: r, ho, a, h => by
    rcases List.mem_cons.1 h with rfl | h
    · refine ⟨fun cs e => by subst e; exact ho.1, fun k n z e hk => by subst e; exact ho.1 hk⟩
    · refine lendP_mem (l := r) ?_ a h
      cases c <;> first | exact ho.2 | exact ho

/-- The array is written no more: it is a slice as others are. -/
theorem See.freeze {n B : Nat} {A : Env} {M : List AObj} (i : Nat) {s : Nat} {els : List (List AV)} {σ' : St} (hM : M[i]? = some (.arr s els)) (hA : lendP i s els (A.map Ent.av)) (hO : frzOk i s els M)
    (hs : (⟨frzE i els A, (M.set i .dead).map (frzO i els)⟩ : St) = σ') : See n B ⟨A, M⟩ σ' := by
  subst hs
  rintro g0 g a ⟨b1, b2, b3, b4, sm, b6, b7, b8⟩
  simp only at b4
  subst b4
  have hwm : WMem g.M (g.M.set i .dead) := WMem.toSet hM (.dead _)
  let g1 : G := ⟨g.M.set i .dead, g.β, g.ρ, g.w, g.X⟩
  have s1 : Sim g1 := sm.wmem hwm
  have hr1 : ∀ a, g1.reg a → g.reg a := fun a h => by
    rcases h with h | ⟨j, o', hj, hc⟩
    · exact .inl h
    · obtain ⟨o, ho, hw⟩ := hwm.get hj
      exact reg_of ho (hw.covers hc)
  have hno : els ≠ [] → ∀ a, g1.reg a → a.block ≠ g.β i := fun hne a h hb => by
    have hc : (AObj.arr s els).covers (g.β i) (g.ρ i) a := ⟨hne, hb⟩
    rcases h with h | ⟨j, o', hj, hcj⟩
    · exact sm.xdis a h ⟨i, _, hM, hc⟩
    · rcases put_get hj with ⟨q1, q2⟩ | ⟨_, q2⟩
      · exact q1 (sm.disj j i o' _ a q2 hM hcj hc)
      · subst q2; exact hcj.elim
  -- the values
  have one : ∀ {a : AV} {v : Value}, R g a v → (∀ j n z, a = .asl j n z → j = i → z = s ∧ n = lenL els) → R g1 (lendA i els a) v := fun {a v} q ho => by
    cases a with
    | asl j n z =>
      by_cases hj : j = i
      · have e : lendA i els (.asl j n z) = .sl els .no := by simp [lendA, hj]
        rw [e]
        obtain ⟨hz, hn⟩ := ho j n z rfl hj
        cases q with
        | asl _ _ _ m cap ad _ hm hc hz' ha =>
        subst hj
        have hlen : els.length = m := by unfold lenL at hn; omega
        subst hlen
        by_cases hne : els = []
        · subst hne
          rcases hz' with rfl | ⟨b, off, rfl⟩
          · exact .nil _ trivial
          · exact .sl [] .no b off 0 cap (fun _ _ => undef) (by simp) (by simp) (by simp) (by simp) (by simp) trivial hc
        · have := ha (List.length_pos_iff.2 hne)
          subst this
          obtain ⟨xs, T, h1, h2, h3⟩ := sm.arr j s els hM hne
          have key : ∀ p q (hp : p < els.length) (hq : q < s), p * s + q < xs.size ∧ R g (els[p][q]'(by rw [h2 _ (List.getElem_mem hp)]; exact hq)) (xs.getD (p * s + q) undef) ∧ (xs.getD (p * s + q) undef).oneCell' = true := fun p q hp hq =>
            h3 p q els[p] _ (List.getElem?_eq_getElem hp) (List.getElem?_eq_getElem _)
          refine .sl els .no _ 0 s cap (fun p q => xs.getD (p * s + q) undef) (fun p hp => h2 _ (List.getElem_mem hp)) (fun p q hp hq => ?_) (fun p q hp hq hr => hno hne _ hr rfl) (fun p q hp hq => ?_) (fun p q hp hq => (key p q hp hq).2.2) trivial hc
          · have := (key p q hp hq).1
            simp [g1, World.cell?, h1, Array.getD, this]
          · have hq' : q < s := by rw [← h2 _ (List.getElem_mem hp)]; exact hq
            exact (key p q hp hq').2.1.wmem hwm
      · have e : lendA i els (.asl j n z) = .asl j n z := by simp [lendA, hj]
        rw [e]; exact q.wmem hwm
    | _ => exact q.wmem hwm
  have two : ∀ {a : AV} {v : Value}, R g a v → (∀ cs, a = .agg cs → lendO i s els cs) → (∀ j n z, a = .asl j n z → j = i → z = s ∧ n = lenL els) → R g1 (lendB i els a) v := fun {a v} q ho1 ho2 => by
    cases a with
    | agg cs =>
      cases q with
      | agg _ xs hs hx h4 =>
        refine .agg _ xs (by simpa using hs) (fun j hj => ?_) (fun j hj => h4 j (by simpa using hj))
        have hj' : j < cs.length := by simpa using hj
        simp only [List.getElem_map]
        exact one (hx j hj') fun k n z he hk => lendO_get (ho1 cs rfl) j hj' k n z he hk
    | asl j n z => exact one q ho2
    | _ => exact one q fun j' n' z' he => by cases he
  -- the memory
  let M2 := (g.M.set i .dead).map (frzO i els)
  let g2 : G := ⟨M2, g.β, g.ρ, g.w, g.X⟩
  have hget : ∀ {j : Nat} {o : AObj}, M2[j]? = some o → ∃ o', (g.M.set i .dead)[j]? = some o' ∧ o = frzO i els o' := fun {j o} h => by
    rw [List.getElem?_map] at h
    obtain ⟨o', h1, h2⟩ := Option.map_eq_some_iff.1 h
    exact ⟨o', h1, h2.symm⟩
  have hcov : ∀ {o : AObj} {b : Nat} {r : Room} {a : Addr}, (frzO i els o).covers b r a ↔ o.covers b r a := fun {o b r a} => by cases o <;> exact Iff.rfl
  have hreg2 : ∀ a, g2.reg a ↔ g1.reg a := fun a => by
    constructor
    · rintro (h | ⟨j, o, hj, hc⟩)
      · exact .inl h
      · obtain ⟨o', h1, rfl⟩ := hget hj
        exact .inr ⟨j, o', h1, hcov.1 hc⟩
    · rintro (h | ⟨j, o, hj, hc⟩)
      · exact .inl h
      · refine .inr ⟨j, frzO i els o, ?_, hcov.2 hc⟩
        show ((g.M.set i .dead).map (frzO i els))[j]? = _
        have hj' : (g.M.set i .dead)[j]? = some o := hj
        rw [List.getElem?_map, hj']; rfl
  have k12 : Keep0 g1 g2 := by
    refine ⟨by simp [g1, g2, M2], fun _ _ => rfl, fun t ht e he => ?_, Nat.le_refl _, fun _ _ h _ => h, fun a _ h q => h ((hreg2 a).1 q), fun _ _ _ => rfl, ⟨rfl, rfl⟩⟩
    obtain ⟨o', h1, h2⟩ := hget he
    cases o' <;> simp only [frzO, reduceCtorEq, AObj.room.injEq] at h2
    subst h2
    exact ⟨_, h1, Nat.le_refl _, fun _ => rfl⟩
  have hin2 : ∀ a, g2.reg a → a.block < g2.w.heap.size := fun a h => s1.inb a ((hreg2 a).1 h)
  have s2 : Sim g2 := by
    refine ⟨Facts.less (g := g1) rfl (fun a h => (hreg2 a).1 h) s1.fct, fun j cells hj => ?_, fun j t pos hj => ?_, fun t e ht => ?_, fun j j' oj oj' a hj hj' hcj hcj' => ?_, hin2, fun a ha => ?_, fun j es hj => ?_, fun j es vis cur t hj => ?_, fun j φ hj => ?_, fun j P cur hj => ?_, fun j z es hj => ?_⟩
    · obtain ⟨o', h1, h2⟩ := hget hj
      cases o' <;> simp only [frzO, reduceCtorEq, AObj.blk.injEq] at h2
      rename_i cs
      subst h2
      obtain ⟨q1, q2⟩ | ⟨_, q2⟩ := put_get h1
      · obtain ⟨xs, T, r1, r2, r3, r4⟩ := sm.blk j cs q2
        refine ⟨xs, T, r1, by simpa using r2, fun k hk => ?_, fun k hk => r4 k (by simpa using hk)⟩
        have hk' : k < cs.length := by simpa using hk
        simp only [List.getElem_map]
        exact (one (r3 k hk') fun k' n z he hkk => lendO_get (frzOk_get hO cs (List.mem_of_getElem? q2)) k hk' k' n z he hkk).keep0 k12
      · cases q2
    · obtain ⟨o', h1, h2⟩ := hget hj
      cases o' <;> simp only [frzO, reduceCtorEq, AObj.iter.injEq] at h2
      obtain ⟨rfl, rfl⟩ := h2
      exact s1.iter j _ _ h1
    · obtain ⟨o', h1, h2⟩ := hget ht
      cases o' <;> simp only [frzO, reduceCtorEq, AObj.room.injEq] at h2
      subst h2
      exact s1.room t _ h1
    · obtain ⟨o1, h1, rfl⟩ := hget hj
      obtain ⟨o2, h2, rfl⟩ := hget hj'
      exact s1.disj j j' o1 o2 a h1 h2 (hcov.1 hcj) (hcov.1 hcj')
    · rintro ⟨j, o, hj, hc⟩
      obtain ⟨o1, h1, rfl⟩ := hget hj
      exact s1.xdis a ha ⟨j, o1, h1, hcov.1 hc⟩
    · obtain ⟨o', h1, h2⟩ := hget hj
      cases o' <;> simp only [frzO, reduceCtorEq, AObj.mapo.injEq] at h2
      subst h2
      obtain ⟨o, q1, q2⟩ := s1.mapo j _ h1
      exact ⟨o, q1, q2.keep0 k12⟩
    · obtain ⟨o', h1, h2⟩ := hget hj
      cases o' <;> simp only [frzO, reduceCtorEq, AObj.mapr.injEq] at h2
      obtain ⟨rfl, rfl, rfl, rfl⟩ := h2
      obtain ⟨t1, t2, o, oi, q1, q2, q3⟩ := s1.mapr j _ _ _ _ h1
      exact ⟨Nat.lt_of_lt_of_le t1 k12.len, t2, o, oi, q1, q2, q3.keep0 k12⟩
    · obtain ⟨o', h1, h2⟩ := hget hj
      cases o' <;> simp only [frzO, reduceCtorEq, AObj.opq.injEq] at h2
      subst h2
      exact s1.opq j _ h1
    · obtain ⟨o', h1, h2⟩ := hget hj
      cases o' <;> simp only [frzO, reduceCtorEq, AObj.own.injEq] at h2
      obtain ⟨rfl, rfl⟩ := h2
      exact s1.ownKeep k12 hin2 h1 hj rfl rfl fun _ _ => rfl
    · obtain ⟨o', h1, h2⟩ := hget hj
      cases o' <;> simp only [frzO, reduceCtorEq, AObj.arr.injEq] at h2
      obtain ⟨rfl, rfl⟩ := h2
      exact (s1.arr j _ _ h1).keep0 k12 fun _ => rfl
  have kg : Keep g g2 := by
    have hr2 : ∀ a, g2.reg a → g.reg a := fun a h => hr1 a ((hreg2 a).1 h)
    refine ⟨⟨by simp [g2, M2], fun _ _ => rfl, fun t ht e he => ?_, Nat.le_refl _, fun _ _ h _ => h, fun a _ h q => h (hr2 a q), fun _ _ _ => rfl, ⟨rfl, rfl⟩⟩, fun _ h => h, fun _ _ _ => ⟨rfl, rfl⟩, fun _ _ _ => rfl⟩
    obtain ⟨o', h1, h2⟩ := hget he
    cases o' <;> simp only [frzO, reduceCtorEq, AObj.room.injEq] at h2
    subst h2
    rcases put_get h1 with ⟨_, q2⟩ | ⟨_, q2⟩
    · exact ⟨_, q2, Nat.le_refl _, fun _ => rfl⟩
    · cases q2
  refine ⟨g2, rfl, b1, b2, b3.trans kg, rfl, s2, fun t tag av he => ?_, b7, b8⟩
  have hent : ∀ {A : Env}, ent (frzE i els A) t = (ent A t).map fun p => (p.1, lendB i els p.2) := fun {A} => by
    induction A with
    | nil => rfl
    | cons e r ih =>
      show (if e.t = t then some (e.tag, lendB i els e.av) else ent (frzE i els r) t) = (if e.t = t then some (e.tag, e.av) else ent r t).map fun p => (p.1, lendB i els p.2)
      by_cases h : e.t = t
      · rw [if_pos h, if_pos h]; rfl
      · rw [if_neg h, if_neg h]; exact ih
  rw [hent] at he
  obtain ⟨⟨tag', av'⟩, he1, he2⟩ := Option.map_eq_some_iff.1 he
  simp only [Prod.mk.injEq] at he2
  obtain ⟨rfl, rfl⟩ := he2
  have hmem : av' ∈ A.map Ent.av := List.mem_map.2 ⟨_, ent_mem he1, rfl⟩
  obtain ⟨m1, m2⟩ := lendP_mem hA av' hmem
  have q := b6 t tag' av' he1
  have hRR : R g av' (a.tmps.getD t undef) → R g2 (lendB i els av') (a.tmps.getD t undef) := fun q => (two q m1 m2).keep0 k12
  rw [tagRel_eq] at q ⊢
  cases tag' with
  | none => exact hRR q
  | some τ => exact ⟨fun h => hRR (q.1 h), q.2⟩
attribute [simp] frzO frzE frzOk
end Go.Ab
end
section
namespace Go.Ab
open Go.Proofs Go.Shelf Go.Sort Go.Maps

def keysV (es : List (AV × AV)) : List Int := es.map fun e => dkI e.1
def IntKeys (k : IntKind) (es : List (AV × AV)) : Prop := ∀ e ∈ es, e.1 = kI k (dkI e.1)
@[simp] theorem keysV_nil : keysV [] = [] := rfl
/-- What collecting them asks. -/
def KeysB (l : List Int) : Prop := (∀ x ∈ l, (Lit.int .i64 x).wf = true) ∧ l.length * 8 ≤ 140737488355328
def sortL (l : List Int) : List Int := l.mergeSort fun x y => decide (x ≤ y)
/-- A slice that owns its block, made by the call. -/
theorem R.ownsRow {g : G} {w' : World} (sm : Sim g) {e : TypeId} {v : Value} {l : List Int} (h : w'.ownsRow g.w.heap.size e 1 v l.length (l.map encZ)) : R { g with w := w' } (.sl (l.map (eNum .i64)) .no) v := by
  rcases h.2 with ⟨rfl, hz⟩ | ⟨gb, cap, cur, rfl, hbase, hgb, hcap, _, hsz, htake⟩
  · have : l = [] := List.eq_nil_of_length_eq_zero hz
    subst this
    exact .nil _ trivial
  · have hlen : (l.map (eNum .i64)).length = l.length := by simp
    have q : R { g with w := w' } (.sl (l.map (eNum .i64)) .no) (.slice (some ⟨gb, 0, none⟩) (l.map (eNum .i64)).length cap) := by
      have hcur : ∀ i, i < l.length → cur[i]? = some (encZ (l.getD i 0)) := fun i hi => by
        have : (cur.toList.take (l.length * 1))[i]? = some (encZ (l.getD i 0)) := by
          rw [htake, List.getElem?_map]
          simp [hi]
        rw [List.getElem?_take_of_lt (by omega)] at this
        simpa using this
      refine .sl _ .no gb 0 1 cap (fun i _ => encZ (l.getD i 0)) (fun i hi => by simp) (fun i j hi hj => ?_) (fun i j hi hj hr => ?_) (fun i j hi hj => ?_) (fun _ _ _ _ => rfl) trivial (by omega)
      · have hj0 : j = 0 := by omega
        subst hj0
        have := hcur i (by omega)
        simp only [World.cell?, hgb, Nat.zero_add, Nat.mul_one, Nat.add_zero]
        simpa using this
      · have := sm.inb _ hr
        simp only at this
        omega
      · have hj0 : j = 0 := by simp at hj; omega
        subst hj0
        have hi' : i < l.length := by omega
        simp only [List.getElem_map, encI_def, List.getElem_cons_zero]
        rw [show (l.getD i 0) = l[i] by simp [hi']]
        exact .lit _
    rw [hlen] at q; exact q

theorem owns_of {g : G} (sm : Sim g) {i : Nat} {es : List (AV × AV)} (hM : g.M[i]? = some (.mapo es)) (hk : IntKeys .i64 es) (hb : KeysB (keysV es)) {P : Program} {k : TypeId} (hkt : P.underlying k = some (.int .i64)) :
    ∃ (D0 : DataW Unit) (R0 : Value → Option (DataW Unit × List MemPlace)), g.w.ownsMap P k R0 (g.β i) es.length D0 ∧ (intKeys D0).Perm (keysV es) ∧ Maps.size D0 = es.length := by
  obtain ⟨ents, clock, hh, hst, he⟩ := map_at sm hM
  have hlen := he.len
  simp only [Array.length_toList] at hlen
  have hkey : ∀ (es : List (AV × AV)) (l : List MapEntry), EntR g es l → IntKeys .i64 es → l.map (·.key) = (keysV es).map encZ := by
    intro es l h
    induction h with
    | nil => intro _; rfl
    | @cons a v es e l hk hv r ih =>
      intro q
      have h1 := q (a, v) (.head _)
      simp only at h1
      rw [h1] at hk
      have h2 : e.key = .int .i64 (dkI a) := hk.lit_inv
      simp only [List.map_cons, keysV, h2]
      rw [ih fun e he => q e (.tail _ he)]; rfl
  have hks := hkey es ents.toList he hk
  have hread : ∀ x ∈ ents.toList, ∃ n : Int, x.key = encZ n ∧ n ∈ keysV es := fun x hx => by
    have : x.key ∈ ents.toList.map (·.key) := List.mem_map.2 ⟨x, hx, rfl⟩
    rw [hks] at this
    obtain ⟨n, hn, e⟩ := List.mem_map.1 this
    exact ⟨n, e.symm, hn⟩
  let R0 : Value → Option (DataW Unit × List MemPlace) := fun _ => some (.nil, [])
  have hrd : ∀ x ∈ ents.toList, ∃ n : Int, x.key = encZ n ∧ WideElems.rd P k R0 x = some (.int .i64 n, .nil) := fun x hx => by
    obtain ⟨n, hn, hmem⟩ := hread x hx
    refine ⟨n, hn, ?_⟩
    simp only [WideElems.rd, hn, R0, Option.map_some]
    rw [show encZ n = .int .i64 n from rfl, Maps.keyOf_int_mk hkt (hb.1 n hmem)]
    rfl
  refine ⟨.map ((ents.toList.map (WideElems.rg P k R0)).foldr DataW.insert []), R0, ⟨ents, clock, hh, ⟨?_, hst, fun x hx => ?_⟩, by omega, rfl⟩, ?_, ?_⟩
  · have := hb.2
    simp only [keysV, List.length_map] at this
    simp only [maxLen]; omega
  · obtain ⟨n, _, h⟩ := hrd x hx
    exact ⟨_, h⟩
  · show (((ents.toList.map (WideElems.rg P k R0)).foldr DataW.insert []).map fun p => intOf p.1).Perm _
    refine ((WideShapes.sorted_perm _).map _).trans ?_
    rw [List.map_map]
    have : ents.toList.map ((fun p => intOf p.1) ∘ WideElems.rg P k R0) = keysV es := by
      have h2 : (ents.toList.map (·.key)).map (fun v => match v with | .int _ n => n | _ => 0) = keysV es := by
        rw [hks, List.map_map]
        exact (List.map_congr_left fun n _ => rfl).trans (List.map_id _)
      rw [← h2, List.map_map]
      refine List.map_congr_left fun x hx => ?_
      obtain ⟨n, h3, h4⟩ := hrd x hx
      simp only [Function.comp, WideElems.rg, h4, Option.getD_some, intOf, h3]
    rw [this]
  · rw [Maps.size_eq, Go.length_read]; omega

/-- What is said of a map that owns what its values point to tells its keys. -/
def OwnKeys (Q : Own) : Prop := ∀ w C bs l, Q.rel w C bs l → l.map (·.1) = Q.data.map fun e => .int .i64 (dkI e.1)
theorem owns_own {g : G} (sm : Sim g) {i : Nat} {Q : Own} (hM : g.M[i]? = some (.own Q none)) (hq : OwnKeys Q) (hb : KeysB (keysV Q.data)) {P : Program} {k : TypeId} (hkt : P.underlying k = some (.int .i64)) :
    ∃ (D0 : DataW Unit) (R0 : Value → Option (DataW Unit × List MemPlace)), g.w.ownsMap P k R0 (g.β i) Q.data.length D0 ∧ (intKeys D0).Perm (keysV Q.data) ∧ Maps.size D0 = Q.data.length := by
  obtain ⟨ents, clock, hh, hst, _, _, hrel, _⟩ := sm.own i Q none hM
  have hks : ents.toList.map (·.key) = (keysV Q.data).map encZ := by
    have := hq _ _ _ _ hrel
    simp only [pairsOf, List.map_map] at this
    simp only [keysV, List.map_map]
    exact this
  have hlen : ents.toList.length = Q.data.length := by
    have := congrArg List.length hks
    simpa [keysV] using this
  simp only [Array.length_toList] at hlen
  have hread : ∀ x ∈ ents.toList, ∃ n : Int, x.key = encZ n ∧ n ∈ keysV Q.data := fun x hx => by
    have : x.key ∈ ents.toList.map (·.key) := List.mem_map.2 ⟨x, hx, rfl⟩
    rw [hks] at this
    obtain ⟨n, hn, e⟩ := List.mem_map.1 this
    exact ⟨n, e.symm, hn⟩
  let R0 : Value → Option (DataW Unit × List MemPlace) := fun _ => some (.nil, [])
  have hrd : ∀ x ∈ ents.toList, ∃ n : Int, x.key = encZ n ∧ WideElems.rd P k R0 x = some (.int .i64 n, .nil) := fun x hx => by
    obtain ⟨n, hn, hmem⟩ := hread x hx
    refine ⟨n, hn, ?_⟩
    simp only [WideElems.rd, hn, R0, Option.map_some]
    rw [show encZ n = .int .i64 n from rfl, Maps.keyOf_int_mk hkt (hb.1 n hmem)]
    rfl
  refine ⟨.map ((ents.toList.map (WideElems.rg P k R0)).foldr DataW.insert []), R0, ⟨ents, clock, hh, ⟨?_, hst, fun x hx => ?_⟩, by omega, rfl⟩, ?_, ?_⟩
  · have := hb.2
    simp only [keysV, List.length_map] at this
    simp only [maxLen]; omega
  · obtain ⟨n, _, h⟩ := hrd x hx
    exact ⟨_, h⟩
  · show (((ents.toList.map (WideElems.rg P k R0)).foldr DataW.insert []).map fun p => intOf p.1).Perm _
    refine ((WideShapes.sorted_perm _).map _).trans ?_
    rw [List.map_map]
    have : ents.toList.map ((fun p => intOf p.1) ∘ WideElems.rg P k R0) = keysV Q.data := by
      have h2 : (ents.toList.map (·.key)).map (fun v => match v with | .int _ n => n | _ => 0) = keysV Q.data := by
        rw [hks, List.map_map]
        exact (List.map_congr_left fun n _ => rfl).trans (List.map_id _)
      rw [← h2, List.map_map]
      refine List.map_congr_left fun x hx => ?_
      obtain ⟨n, h3, h4⟩ := hrd x hx
      simp only [Function.comp, WideElems.rg, h4, Option.getD_some, intOf, h3]
    rw [this]
  · rw [Maps.size_eq, Go.length_read]; omega

/-- 'maps.Keys'. -/
@[simp] def keysS (k : Nat) : Sp
  | [.mp i], M => match M[i]? with
    | some (.mapo _) => some { av := .fn k [.mp i] }
    | some (.own _ none) => some { av := .fn k [.mp i] }
    | _ => none
  | _, _ => none

theorem keys_ok {P : Program} {ρ : Ren} (L : SlLaysZI.n7 P ρ) {f k : Nat} (hf : ρ.f 7 = f) (hk : ρ.f 10 = k) (hent : ∀ args w, (callFunc f args).run P w = .ok (.enter f args) w) : SpecOk P f (keysS k) := by
  subst hf; subst hk
  intro l M out h
  unfold keysS at h
  split at h
  · rename_i i
    have h : some ({ av := .fn (ρ.f 10) [.mp i] } : Out) = some out := by
      split at h
      · exact h
      · exact h
      · cases h
    · cases h
      intro g vs hM sm hr _
      cases hr with | cons hv hr => cases hr with | nil =>
      cases hv with
      | mp _ hi =>
      refine ⟨hent _ _, ?_⟩
      refine ((callsIn_wide (n := 5)).1 (AnyZI.keys_in L Fence.wide 5 trivial rfl _ _)).mono fun e w' => ?_
      rintro ⟨rfl, rfl⟩
      have hw : (g.w.alloc (.cells #[.map (some (g.β i))] (ρ.t 23))).heap = g.w.heap.push (.cells #[.map (some (g.β i))] (ρ.t 23)) := rfl
      refine ⟨_, rfl, g.β, g.ρ, ?_, ?_, ?_⟩
      · simp only [G.out, Option.getD_none]
        exact sim_push hw sm
      · simp only [G.out, Option.getD_none]
        have q : R { g with w := g.w.alloc (.cells #[.map (some (g.β i))] (ρ.t 23)) } (.fn (ρ.f 10) [.mp i]) (.func (.func (ρ.f 10)) #[] ((List.range [AV.mp i].length).map fun j => Value.pointer (some ⟨(fun _ => g.w.heap.size) j, 0, none⟩)).toArray) := by
          refine .fn (ρ.f 10) [.mp i] (fun _ => g.w.heap.size) (fun _ => .map (some (g.β i))) (fun j hj => ?_) (fun j hj hreg => ?_) (fun j hj => ?_)
          · simp [World.cell?, hw]
          · have := sm.inb _ hreg
            simp at this
          · have hj0 : j = 0 := by simp at hj; omega
            subst hj0
            exact .mp (g := { g with w := g.w.alloc (.cells #[.map (some (g.β i))] (ρ.t 23)) }) i hi
        exact q
      · simp only [G.out, Option.getD_none]
        exact keep_push hw
  · cases h

theorem fn_inv {g : G} {f : Nat} {i : Nat} {v : Value} (h : R g (.fn f [.mp i]) v) : ∃ b, v = .func (.func f) #[] #[.pointer (some ⟨b, 0, none⟩)] ∧ g.w.cell? ⟨b, 0, none⟩ = some (.map (some (g.β i))) ∧ i < g.M.length := by
  cases h with
  | fn _ _ bs us h1 h2 h3 =>
    have h4 := h3 0 (by simp)
    simp only [List.getElem_cons_zero] at h4
    generalize hu : us 0 = u at h4
    cases h4 with
    | mp _ hi =>
      refine ⟨bs 0, by simp [List.range_succ], ?_, hi⟩
      have := h1 0 (by simp)
      rw [hu] at this; exact this

/-- 'slices.Sorted' of a map's keys. -/
@[simp] def sortedS (k : Nat) : Sp
  | [.fn k' [.mp i]], M => if k' = k then (match M[i]? with
    | some (.mapo es) => some { av := .sl ((sortL (keysV es)).map (eNum .i64)) .no, obl := IntKeys .i64 es ∧ KeysB (keysV es) }
    | some (.own Q none) => some { av := .sl ((sortL (keysV Q.data)).map (eNum .i64)) .no, obl := OwnKeys Q ∧ KeysB (keysV Q.data) }
    | _ => none) else none
  | _, _ => none

theorem sorted_ok {P : Program} {ρ ρ' : Ren} (L : SlLaysZI.n6 P ρ) (L' : SlLaysZI.n10 P ρ') {f k : Nat} (hf : ρ.f 6 = f) (hk : ρ'.f 10 = k) (hent : ∀ args w, (callFunc f args).run P w = .ok (.enter f args) w)
    (hsort : ∀ m, AnyZI.SortsIn P ρ Fence.wide m) (e9 : ∀ args w, (callFunc (ρ.f 9) args).run P w = .ok (.enter (ρ.f 9) args) w) (eg : ∀ args w, (callFunc k args).run P w = .ok (.enter k args) w) : SpecOk P f (sortedS k) := by
  subst hf; subst hk
  intro l M out h
  unfold sortedS at h
  split at h
  · rename_i k' i
    split at h
    · rename_i hkk
      subst hkk
      split at h
      · rename_i es hMi
        cases h
        intro g vs hM sm hr ho
        subst hM
        cases hr with | cons hv hr => cases hr with | nil =>
        obtain ⟨b, rfl, hcell, hi⟩ := fn_inv hv
        refine ⟨hent _ _, ?_⟩
        obtain ⟨D0, R0, hown, hperm, hsize⟩ := owns_of sm hMi ho.1 ho.2 (P := P) (k := ρ'.t 26) L'.t26
        have hseq : SeqGives Fence.wide 2 P (ρ'.f 10) #[.pointer (some ⟨b, 0, none⟩)] encZ (fun ss => ss.Perm (intKeys D0)) (Maps.size D0) g.w :=
          AnyZI.keys_gives L' Fence.wide 2 trivial rfl (by omega) b (g.β i) es.length D0 g.w (cell_lt hcell) hcell hown
        have hbd := ho.2.2
        simp only [keysV, List.length_map] at hbd
        have cS := AnyZI.sorted_in L Fence.wide 5 trivial trivial trivial trivial rfl (by omega) (hsort _) e9 (ρ'.f 10) #[.pointer (some ⟨b, 0, none⟩)] trivial eg _ _ (by rw [hsize]; simp only [maxLen]; omega) (by rw [hsize]; exact hbd) g.w hseq
        refine ((callsIn_wide (n := 5)).1 cS).mono fun e w' => ?_
        rintro ⟨v, ss, rfl, hS, hrow, _, hbel⟩
        have hss : ss.mergeSort (fun x y => decide (x ≤ y)) = sortL (keysV es) := mergeSort_of_perm_i (hS.trans hperm)
        rw [hss] at hrow
        have hl : ss.length = (sortL (keysV es)).length := by rw [← hss]; simp
        rw [hl] at hrow
        refine ⟨_, rfl, g.β, g.ρ, ?_, ?_, ?_⟩
        · simp only [G.out, Option.getD_none]; exact sim_below hbel sm
        · simp only [G.out, Option.getD_none]; exact R.ownsRow sm hrow
        · simp only [G.out, Option.getD_none]; exact keep_below hbel
      · rename_i Qo hMi
        cases h
        intro g vs hM sm hr ho
        subst hM
        cases hr with | cons hv hr => cases hr with | nil =>
        obtain ⟨b, rfl, hcell, hi⟩ := fn_inv hv
        refine ⟨hent _ _, ?_⟩
        obtain ⟨D0, R0, hown, hperm, hsize⟩ := owns_own sm hMi ho.1 ho.2 (P := P) (k := ρ'.t 26) L'.t26
        have hseq : SeqGives Fence.wide 2 P (ρ'.f 10) #[.pointer (some ⟨b, 0, none⟩)] encZ (fun ss => ss.Perm (intKeys D0)) (Maps.size D0) g.w :=
          AnyZI.keys_gives L' Fence.wide 2 trivial rfl (by omega) b (g.β i) Qo.data.length D0 g.w (cell_lt hcell) hcell hown
        have hbd := ho.2.2
        simp only [keysV, List.length_map] at hbd
        have cS := AnyZI.sorted_in L Fence.wide 5 trivial trivial trivial trivial rfl (by omega) (hsort _) e9 (ρ'.f 10) #[.pointer (some ⟨b, 0, none⟩)] trivial eg _ _ (by rw [hsize]; simp only [maxLen]; omega) (by rw [hsize]; exact hbd) g.w hseq
        refine ((callsIn_wide (n := 5)).1 cS).mono fun e w' => ?_
        rintro ⟨v, ss, rfl, hS, hrow, _, hbel⟩
        have hss : ss.mergeSort (fun x y => decide (x ≤ y)) = sortL (keysV Qo.data) := mergeSort_of_perm_i (hS.trans hperm)
        rw [hss] at hrow
        have hl : ss.length = (sortL (keysV Qo.data)).length := by rw [← hss]; simp
        rw [hl] at hrow
        refine ⟨_, rfl, g.β, g.ρ, ?_, ?_, ?_⟩
        · simp only [G.out, Option.getD_none]; exact sim_below hbel sm
        · simp only [G.out, Option.getD_none]; exact R.ownsRow sm hrow
        · simp only [G.out, Option.getD_none]; exact keep_below hbel
      · cases h
    · cases h
  · cases h

end Go.Ab
end

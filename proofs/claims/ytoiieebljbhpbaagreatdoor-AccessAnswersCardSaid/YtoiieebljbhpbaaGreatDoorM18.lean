/- Maps whose values own what they point to: the steps of a run at which an entry is opened and closed. No condition: over any program. -/
import Derived.Test.YtoiieebljbhpbaaGreatDoorM12
import Derived.Test.YtoiieebljbhpbaaGreatDoorM13
import Derived.Test.YtoiieebljbhpbaaGreatDoorProg
import Derived.StillTailTactics
import Derived.Sort.Grow
import Derived.Lib.Small
import Derived.Lib.Walk
import Derived.BigRegion
import Derived.Deep.Draws
import Derived.Sort.CutIn
section
namespace Go.Ab
section
variable {n B : Nat} {A : Env} {M M' : List AObj}
variable {K T : Type} {key : Value → Prop} {kE : K → Value} {fl : T → AV} {N : T → List AObj} {V : T → AV} {eq : K → K → Bool}

end

section
variable {n B : Nat} {A : Env} {M M' : List AObj}
variable {T : Type} {key : Value → Prop} {kk : IntKind} {fl : T → AV} {N : T → List AObj} {V : T → AV}
end
attribute [simp] AObj.isRoom

/-! ### An array: the mark ahead of it, and its end -/
def frzO (i : Nat) (els : List (List AV)) : AObj → AObj
 | .blk cs => .blk (cs.map (lendA i els))
 | o => o
def frzE (i : Nat) (els : List (List AV)) (A : Env) : Env := A.map fun e => ⟨e.t, e.tag, lendB i els e.av⟩
def frzOk (i s : Nat) (els : List (List AV)) : List AObj → Prop
 | [] => True
 | .blk cs :: r => lendO i s els cs ∧ frzOk i s els r
 | _ :: r => frzOk i s els r
theorem lendO_get {i s : Nat} {els : List (List AV)} : ∀ {cs : List AV}, lendO i s els cs → ∀ j (hj : j < cs.length), ∀ k n z, cs[j] = .asl k n z → k = i → z = s ∧ n = lenL els
 | [], _, j, hj, _, _, _, _, _ => by simp at hj
 | c :: cs, ho, j, hj, k, n, z, he, hk => by
   cases j with
   | zero =>
     simp only [List.getElem_cons_zero] at he
     subst he
     exact ho.1 hk
   | succ j =>
     refine lendO_get (cs := cs) ?_ j (by simpa using hj) k n z (by simpa using he) hk
     cases c <;> first | exact ho.2 | exact ho
theorem frzOk_get {i s : Nat} {els : List (List AV)} : ∀ {M : List AObj}, frzOk i s els M → ∀ cs, AObj.blk cs ∈ M → lendO i s els cs
 | [], _, _, h => by cases h
 | o :: r, ho, cs, h => by
   rcases List.mem_cons.1 h with rfl | h
   ·exact ho.1
   ·refine frzOk_get (M := r) ?_ cs h
    cases o <;> first | exact ho.2 | exact ho
theorem lendP_mem {i s : Nat} {els : List (List AV)} : ∀ {l : List AV}, lendP i s els l → ∀ a ∈ l, (∀ cs, a = .agg cs → lendO i s els cs) ∧ ∀ k n z, a = .asl k n z → k = i → z = s ∧ n = lenL els
 | [], _, a, h => by cases h
 | c :: r, ho, a, h => by
   rcases List.mem_cons.1 h with rfl | h
   ·refine ⟨fun cs e => by subst e; exact ho.1, fun k n z e hk => by subst e; exact ho.1 hk⟩
   ·refine lendP_mem (l := r) ?_ a h
    cases c <;> first | exact ho.2 | exact ho
theorem See.freeze {n B : Nat} {A : Env} {M : List AObj} (i : Nat) {s : Nat} {els : List (List AV)} {σ' : St} (hM : M[i]? = some (.arr s els)) (hA : lendP i s els (A.map Ent.av)) (hO : frzOk i s els M)
  (hs : (⟨frzE i els A, (M.set i .dead).map (frzO i els)⟩ : St) = σ') : See n B ⟨A, M⟩ σ' := by
 subst hs
 rintro g0 g a ⟨b1, b2, b3, b4, sm, b6, b7, b8⟩
 simp only at b4
 subst b4
 have hwm : WMem g.M (g.M.set i .dead) := WMem.toSet hM (.dead _)
 let g1 : G := ⟨g.M.set i .dead, g.β, g.ρ, g.w, g.X⟩
 have s1 : Sim g1 := sm.wmem hwm
 have hr1 : ∀ a, g1.reg a → g.reg a := fun a h => by
  rcases h with h | ⟨j, o', hj, hc⟩
  ·exact .inl h
  ·obtain ⟨o, ho, hw⟩ := hwm.get hj
   exact Lk ho (hw.covers hc)
 have hno : els ≠ [] → ∀ a, g1.reg a → a.block ≠ g.β i := fun hne a h hb => by
  have hc : (AObj.arr s els).covers (g.β i) (g.ρ i) a := ⟨hne, hb⟩
  rcases h with h | ⟨j, o', hj, hcj⟩
  ·exact sm.xdis a h ⟨i, _, hM, hc⟩
  ·rcases put_get hj with ⟨q1, q2⟩ | ⟨_, q2⟩
   ·exact q1 (sm.disj j i o' _ a q2 hM hcj hc)
   ·subst q2; exact hcj.elim
 -- the values
 have one : ∀ {a : AV} {v : Value}, R g a v → (∀ j n z, a = .asl j n z → j = i → z = s ∧ n = lenL els) → R g1 (lendA i els a) v := fun {a v} q ho => by
  cases a with
  | asl j n z =>
    by_cases hj : j = i
    ·have e : lendA i els (.asl j n z) = .sl els .no := by simp [lendA, hj]
     rw [e]
     obtain ⟨hz, hn⟩ := ho j n z rfl hj
     cases q with
     | asl _ _ _ m cap ad _ hm hc hz' ha =>
     subst hj
     have hlen : els.length = m := by unfold lenL at hn; omega
     subst hlen
     by_cases hne : els = []
     ·subst hne
      rcases hz' with rfl | ⟨b, off, rfl⟩
      ·exact .nil _ trivial
      ·exact .sl [] .no b off 0 cap (fun _ _ => undef) (by simp) (by simp) (by simp) (by simp) (by simp) trivial hc
     ·have := ha (List.length_pos_iff.2 hne)
      subst this
      obtain ⟨xs, T, h1, h2, h3⟩ := sm.arr j s els hM hne
      have key : ∀ p q (hp : p < els.length) (hq : q < s), p * s + q < xs.size ∧ R g (els[p][q]'(by rw [h2 _ (List.getElem_mem hp)]; exact hq)) (xs.getD (p * s + q) undef) ∧ (xs.getD (p * s + q) undef).oneCell' = true := fun p q hp hq =>
       h3 p q els[p] _ (List.getElem?_eq_getElem hp) (List.getElem?_eq_getElem _)
      refine .sl els .no _ 0 s cap (fun p q => xs.getD (p * s + q) undef) (fun p hp => h2 _ (List.getElem_mem hp)) (fun p q hp hq => ?_) (fun p q hp hq hr => hno hne _ hr rfl) (fun p q hp hq => ?_) (fun p q hp hq => (key p q hp hq).2.2) trivial hc
      ·have := (key p q hp hq).1
       simp [g1, World.cell?, h1, Array.getD, this]
      ·have hq' : q < s := by rw [← h2 _ (List.getElem_mem hp)]; exact hq
       exact (key p q hp hq').2.1.wmem hwm
    ·have e : lendA i els (.asl j n z) = .asl j n z := by simp [lendA, hj]
     rw [e]; exact q.wmem hwm
  | _ => exact q.wmem hwm
 have two : ∀ {a : AV} {v : Value}, R g a v → (∀ cs, a = .agg cs → lendO i s els cs) → (∀ j n z, a = .asl j n z → j = i → z = s ∧ n = lenL els) → R g1 (lendB i els a) v := fun {a v} q ho1 ho2 => by
  cases a with
  | agg cs =>
    cases q with
    | agg _ xs hs hx h4 =>
      refine .agg _ xs (by simpa using hs) (fun j hj => ?_) (fun j hj => h4 j (by simpa using hj))
      have hj' : j < cs.length := by simpa using hj
      simp only [List.getElem_map]
      exact one (hx j hj') fun k n z he hk => lendO_get (ho1 cs rfl) j hj' k n z he hk
  | asl j n z => exact one q ho2
  | _ => exact one q fun j' n' z' he => by cases he
 -- the memory
 let M2 := (g.M.set i .dead).map (frzO i els)
 let g2 : G := ⟨M2, g.β, g.ρ, g.w, g.X⟩
 have hget : ∀ {j : Nat} {o : AObj}, M2[j]? = some o → ∃ o', (g.M.set i .dead)[j]? = some o' ∧ o = frzO i els o' := fun {j o} h => by
  rw [List.getElem?_map] at h
  obtain ⟨o', h1, h2⟩ := Option.map_eq_some_iff.1 h
  exact ⟨o', h1, h2.symm⟩
 have hcov : ∀ {o : AObj} {b : Nat} {r : Room} {a : Addr}, (frzO i els o).covers b r a ↔ o.covers b r a := fun {o b r a} => by cases o <;> exact Iff.rfl
 have hreg2 : ∀ a, g2.reg a ↔ g1.reg a := fun a => by
  constructor
  ·rintro (h | ⟨j, o, hj, hc⟩)
   ·exact .inl h
   ·obtain ⟨o', h1, rfl⟩ := hget hj
    exact .inr ⟨j, o', h1, hcov.1 hc⟩
  ·rintro (h | ⟨j, o, hj, hc⟩)
   ·exact .inl h
   ·refine .inr ⟨j, frzO i els o, ?_, hcov.2 hc⟩
    show ((g.M.set i .dead).map (frzO i els))[j]? = _
    have hj' : (g.M.set i .dead)[j]? = some o := hj
    rw [List.getElem?_map, hj']; rfl
 have k12 : Keep0 g1 g2 := by
  refine ⟨by simp [g1, g2, M2], fun _ _ => rfl, fun t ht e he => ?_, Nat.le_refl _, fun _ _ h _ => h, fun a _ h q => h ((hreg2 a).1 q), fun _ _ _ => rfl, ⟨rfl, rfl⟩⟩
  obtain ⟨o', h1, h2⟩ := hget he
  cases o' <;> simp only [frzO, reduceCtorEq, AObj.room.injEq] at h2
  subst h2
  exact ⟨_, h1, Nat.le_refl _, fun _ => rfl⟩
 have hin2 : ∀ a, g2.reg a → a.block < g2.w.heap.size := fun a h => s1.inb a ((hreg2 a).1 h)
 have s2 : Sim g2 := by
  refine ⟨Facts.less (g := g1) rfl (fun a h => (hreg2 a).1 h) s1.fct, fun j cells hj => ?_, fun j t pos hj => ?_, fun t e ht => ?_, fun j j' oj oj' a hj hj' hcj hcj' => ?_, hin2, fun a ha => ?_, fun j es hj => ?_, fun j es vis cur t hj => ?_, fun j φ hj => ?_, fun j P cur hj => ?_, fun j z es hj => ?_⟩
  ·obtain ⟨o', h1, h2⟩ := hget hj
   cases o' <;> simp only [frzO, reduceCtorEq, AObj.blk.injEq] at h2
   rename_i cs
   subst h2
   obtain ⟨q1, q2⟩ | ⟨_, q2⟩ := put_get h1
   ·obtain ⟨xs, T, r1, r2, r3, r4⟩ := sm.blk j cs q2
    refine ⟨xs, T, r1, by simpa using r2, fun k hk => ?_, fun k hk => r4 k (by simpa using hk)⟩
    have hk' : k < cs.length := by simpa using hk
    simp only [List.getElem_map]
    exact (one (r3 k hk') fun k' n z he hkk => lendO_get (frzOk_get hO cs (List.mem_of_getElem? q2)) k hk' k' n z he hkk).keep0 k12
   ·cases q2
  ·obtain ⟨o', h1, h2⟩ := hget hj
   cases o' <;> simp only [frzO, reduceCtorEq, AObj.iter.injEq] at h2
   obtain ⟨rfl, rfl⟩ := h2
   exact s1.iter j _ _ h1
  ·obtain ⟨o', h1, h2⟩ := hget ht
   cases o' <;> simp only [frzO, reduceCtorEq, AObj.room.injEq] at h2
   subst h2
   exact s1.room t _ h1
  ·obtain ⟨o1, h1, rfl⟩ := hget hj
   obtain ⟨o2, h2, rfl⟩ := hget hj'
   exact s1.disj j j' o1 o2 a h1 h2 (hcov.1 hcj) (hcov.1 hcj')
  ·rintro ⟨j, o, hj, hc⟩
   obtain ⟨o1, h1, rfl⟩ := hget hj
   exact s1.xdis a ha ⟨j, o1, h1, hcov.1 hc⟩
  ·obtain ⟨o', h1, h2⟩ := hget hj
   cases o' <;> simp only [frzO, reduceCtorEq, AObj.mapo.injEq] at h2
   subst h2
   obtain ⟨o, q1, q2⟩ := s1.mapo j _ h1
   exact ⟨o, q1, q2.keep0 k12⟩
  ·obtain ⟨o', h1, h2⟩ := hget hj
   cases o' <;> simp only [frzO, reduceCtorEq, AObj.mapr.injEq] at h2
   obtain ⟨rfl, rfl, rfl, rfl⟩ := h2
   obtain ⟨t1, t2, o, oi, q1, q2, q3⟩ := s1.mapr j _ _ _ _ h1
   exact ⟨Nat.lt_of_lt_of_le t1 k12.len, t2, o, oi, q1, q2, q3.keep0 k12⟩
  ·obtain ⟨o', h1, h2⟩ := hget hj
   cases o' <;> simp only [frzO, reduceCtorEq, AObj.opq.injEq] at h2
   subst h2
   exact s1.opq j _ h1
  ·obtain ⟨o', h1, h2⟩ := hget hj
   cases o' <;> simp only [frzO, reduceCtorEq, AObj.own.injEq] at h2
   obtain ⟨rfl, rfl⟩ := h2
   exact s1.ownKeep k12 hin2 h1 hj rfl rfl fun _ _ => rfl
  ·obtain ⟨o', h1, h2⟩ := hget hj
   cases o' <;> simp only [frzO, reduceCtorEq, AObj.arr.injEq] at h2
   obtain ⟨rfl, rfl⟩ := h2
   exact (s1.arr j _ _ h1).keep0 k12 fun _ => rfl
 have kg : Keep g g2 := by
  have hr2 : ∀ a, g2.reg a → g.reg a := fun a h => hr1 a ((hreg2 a).1 h)
  refine ⟨⟨by simp [g2, M2], fun _ _ => rfl, fun t ht e he => ?_, Nat.le_refl _, fun _ _ h _ => h, fun a _ h q => h (hr2 a q), fun _ _ _ => rfl, ⟨rfl, rfl⟩⟩, fun _ h => h, fun _ _ _ => ⟨rfl, rfl⟩, fun _ _ _ => rfl⟩
  obtain ⟨o', h1, h2⟩ := hget he
  cases o' <;> simp only [frzO, reduceCtorEq, AObj.room.injEq] at h2
  subst h2
  rcases put_get h1 with ⟨_, q2⟩ | ⟨_, q2⟩
  ·exact ⟨_, q2, Nat.le_refl _, fun _ => rfl⟩
  ·cases q2
 refine ⟨g2, rfl, b1, b2, b3.trans kg, rfl, s2, fun t tag av he => ?_, b7, b8⟩
 have hent : ∀ {A : Env}, ent (frzE i els A) t = (ent A t).map fun p => (p.1, lendB i els p.2) := fun {A} => by
  induction A with
  | nil => rfl
  | cons e r ih =>
    show (if e.t = t then some (e.tag, lendB i els e.av) else ent (frzE i els r) t) = (if e.t = t then some (e.tag, e.av) else ent r t).map fun p => (p.1, lendB i els p.2)
    by_cases h : e.t = t
    ·rw [if_pos h, if_pos h]; rfl
    ·rw [if_neg h, if_neg h]; exact ih
 rw [hent] at he
 obtain ⟨⟨tag', av'⟩, he1, he2⟩ := Option.map_eq_some_iff.1 he
 simp only [Prod.mk.injEq] at he2
 obtain ⟨rfl, rfl⟩ := he2
 have hmem : av' ∈ A.map Ent.av := List.mem_map.2 ⟨_, ent_mem he1, rfl⟩
 obtain ⟨m1, m2⟩ := lendP_mem hA av' hmem
 have q := b6 t tag' av' he1
 have hRR : R g av' (a.tmps.getD t undef) → R g2 (lendB i els av') (a.tmps.getD t undef) := fun q => (two q m1 m2).keep0 k12
 rw [tagRel_eq] at q ⊢
 cases tag' with
 | none => exact hRR q
 | some τ => exact ⟨fun h => hRR (q.1 h), q.2⟩
attribute [simp] frzO frzE frzOk
end Go.Ab
end
section
namespace Go.Ab
variable {P : Program} {ty : TyTab} {Γ : Gam} {n B : Nat} {Q : Exit → St → Prop} {σ : St}

@[simp] theorem getV_SI (k2 : IntKind) (x : ByteArray) (d : Int) (m : List (ByteArray × Int)) : getV (.string x) (.lit (.int k2 d)) (encM kS (kI k2) m) = .lit (.int k2 (getM eqS x d m)) := getV_S (vE := kI k2) (d := d) rfl x m
@[simp] theorem setV_SI (k2 : IntKind) (x : ByteArray) (v : Int) (m : List (ByteArray × Int)) : setV (.string x) (.lit (.int k2 v)) (encM kS (kI k2) m) = encM kS (kI k2) (setM eqS x v m) := setV_S (vE := kI k2) (v := v) rfl x m
theorem getV_at {V : Type} {kk : IntKind} {vE : V → AV} {k : Int} {v : V} {z : AV} : ∀ {m : List (Int × V)}, (m.map (·.1)).Nodup → (k, v) ∈ m → getV (.int kk k) z (encM (kI kk) vE m) = vE v := by
 intro m hn hm
 have hz : getV (.int kk k) z (encM (kI kk) vE m) = getV (.int kk k) (vE v) (encM (kI kk) vE m) := by
  clear hn
  induction m with
  | nil => cases hm
  | cons e r ih =>
    simp only [encM, List.map_cons, kI, getV]
    split
    ·rfl
    ·rename_i hne
     refine ih ?_
     rcases List.mem_cons.1 hm with rfl | h
     ·have he : eqI k k = true := by simp [eqI]
      simp [sameV, he] at hne
     ·exact h
 rw [hz, getV_I (d := v) rfl]
 congr 1
 clear hz
 induction m with
 | nil => cases hm
 | cons e r ih =>
   rw [getM]
   rw [List.map_cons, List.nodup_cons] at hn
   rcases List.mem_cons.1 hm with rfl | h
   ·rw [if_pos (by simp [eqI])]
   ·have : k ≠ e.1 := fun q => hn.1 (List.mem_map.2 ⟨(k, v), h, q⟩)
    rw [if_neg (by simp [eqI, this])]
    exact ih hn.2 h

theorem nodup_len {α : Type} : ∀ {l m : List α}, l.Nodup → (∀ x ∈ l, x ∈ m) → l.length ≤ m.length
 | [], _, _, _ => Nat.zero_le _
 | a :: l, m, h, hs => by
   rw [List.nodup_cons] at h
   obtain ⟨m1, m2, rfl⟩ := List.append_of_mem (hs a (List.mem_cons_self))
   have := nodup_len (l := l) (m := m1 ++ m2) h.2 fun x hx => by
    have hx' := hs x (List.mem_cons_of_mem _ hx)
    rcases List.mem_append.1 hx' with q | q
    ·exact List.mem_append.2 (.inl q)
    ·rcases List.mem_cons.1 q with rfl | q
     ·exact absurd hx h.1
     ·exact List.mem_append.2 (.inr q)
   simp only [List.length_append, List.length_cons] at this ⊢
   omega
theorem AWp.rangeM {c : Code} {V X : Type} {kk : IntKind} {vE : V → AV} {id i u mm : Nat} (m : List (Int × V)) (I : List (Int × V) → X → Prop) (E : X → List Value → Option Value → St) (EX : X → St)
  (hE : ∀ x vis cur, (E x vis cur).M[i]? = some (.mapr (encM (kI kk) vE m) vis cur u)) (x0 : X) (hc : Conv B mm σ (E x0 [] none)) (h0 : I [] x0)
  (round : ∀ x vis cur done, (m.map (·.1)).Nodup → I done x → vis = done.map (fun e => Value.int kk e.1) → AWp P n B c (fun e σ' => (e = .exit id ∧ (∀ k v, (AV.lit k, v) ∈ encM (kI kk) vE m → k ∈ vis) ∧ ∃ mx, Conv B mx σ' (EX x)) ∨
   (e = .normal ∧ ∃ (k : Int) (v : V), Value.int kk k ∉ vis ∧ (k, v) ∈ m ∧ ∃ x', I ((k, v) :: done) x' ∧ ∃ mx, Conv B mx σ' (E x' (.int kk k :: vis) (some (.int kk k))))) (E x vis cur))
  (hq : ∀ x σ' mx done, done.Perm m → I done x → Conv B mx σ' (EX x) → Q .normal σ') : AWp P n B (.block id (.loop c)) Q σ := by
 intro g0 g a at_
 obtain ⟨g1, _, at1⟩ := hc.at at_
 have hN := keys_nodup at1.sim (by rw [at1.mem]; exact hE x0 [] none)
 refine (AWp.block (AWp.loop' (fun q σ => ∃ x vis cur done, σ = E x vis cur ∧ I done x ∧ vis = done.map (fun e => Value.int kk e.1) ∧ (∀ e ∈ done, e ∈ m) ∧ done.Nodup ∧ done.length + q = m.length + 1) (m.length + 1) mm _
  (hc := hc) ⟨x0, [], none, [], rfl, h0, rfl, fun _ h => (by cases h), .nil, by simp⟩ ?_) : AWp P n B (.block id (.loop c)) Q σ) g0 g a at_
 rintro q σ ⟨x, vis, cur, done, rfl, hI, hv, hd, hnd, hl⟩
 refine AWp.mono (round x vis cur done hN hI hv) fun e σ' h => ?_
 have hsub : done.length ≤ m.length := nodup_len hnd hd
 rcases h with ⟨rfl, h1, mx, h2⟩ | ⟨rfl, k, v, h1, h2, x', h3, mx, h4⟩
 ·simp only [thenS, blockS, if_true]
  refine hq x σ' mx done ?_ hI h2
  have hmn : m.Nodup := by
   unfold List.Nodup at hN ⊢
   rw [List.pairwise_map] at hN
   exact hN.imp fun h q => h (by rw [q])
  refine (List.perm_ext_iff_of_nodup hnd hmn).2 fun e => ⟨hd e, fun he => ?_⟩
  have := h1 (.int kk e.1) (vE e.2) (List.mem_map.2 ⟨e, he, rfl⟩)
  rw [hv] at this
  obtain ⟨e', he', hk⟩ := List.mem_map.1 this
  have hk' : e'.1 = e.1 := by injection hk
  have : e' = e := by
   have hN' := hN
   unfold List.Nodup at hN'
   rw [List.pairwise_map] at hN'
   refine Classical.byContradiction fun hne => ?_
   obtain ⟨i1, hi1, e1⟩ := List.mem_iff_getElem.1 (hd e' he')
   obtain ⟨i2, hi2, e2⟩ := List.mem_iff_getElem.1 he
   rcases Nat.lt_trichotomy i1 i2 with h | h | h
   ·have := List.pairwise_iff_getElem.1 hN' i1 i2 hi1 hi2 h
    rw [e1, e2] at this; exact this hk'
   ·subst h; exact hne (e1.symm.trans e2)
   ·have := List.pairwise_iff_getElem.1 hN' i2 i1 hi2 hi1 h
    rw [e1, e2] at this; exact this hk'.symm
  rw [← this]; exact he'
 ·simp only [thenS]
  have hnew : (k, v) ∉ done := fun h => h1 (by rw [hv]; exact List.mem_map.2 ⟨_, h, rfl⟩)
  have hd' : ∀ e ∈ (k, v) :: done, e ∈ m := fun e he => by
   rcases List.mem_cons.1 he with rfl | he
   ·exact h2
   ·exact hd e he
  have hnd' : ((k, v) :: done).Nodup := List.nodup_cons.2 ⟨hnew, hnd⟩
  have hsub' : ((k, v) :: done).length ≤ m.length := nodup_len hnd' hd'
  simp only [List.length_cons] at hsub'
  refine ⟨q - 1, mx, _, by omega, h4, x', _, _, (k, v) :: done, rfl, h3, by rw [hv]; rfl, hd', hnd', by simp only [List.length_cons]; omega⟩
end Go.Ab
end
section
set_option maxRecDepth 100000
set_option maxHeartbeats 1000000
namespace Go.Ab
open Go.Proofs Go.RowKit Go.Lib Go.Sort
theorem isNaN_c (x : Int) (w : World) : Calls Tryz.prog 94 #[.int .i64 x] w fun e w' => e = .returned (.bool false) ∧ w' = w := by
 go_enter Tryz.func94, Tryz.ntmps94
 go_wp2
 go_ret
 exact ⟨by simp, rfl⟩
theorem compare_c (x y : Int) (w : World) : Calls Tryz.prog 46 #[.int .i64 x, .int .i64 y] w fun e w' => e = .returned (.int .i64 (Lib.compareInt x y)) ∧ w' = w := by
 go_enter Tryz.func46, Tryz.ntmps46
 go_wp2_with (go_at_call 94; refine (isNaN_c _ _).mono ?_; rintro e w' ⟨rfl, hw⟩; rw [hw])
 all_goals (go_ret; refine ⟨?_, rfl⟩; unfold Lib.compareInt; (repeat' split) <;> first | rfl | (exfalso; omega))
def or3 (a b c : Int) : Int := if a ≠ 0 then a else if b ≠ 0 then b else c
theorem or_c (B : Nat) (a b c : Int) (w : World) (h0 : w.cell? ⟨B, 0, none⟩ = some (.int .i64 a)) (h1 : w.cell? ⟨B, 1, none⟩ = some (.int .i64 b)) (h2 : w.cell? ⟨B, 2, none⟩ = some (.int .i64 c)) :
  Calls Tryz.prog 45 #[.slice (some ⟨B, 0, none⟩) 3 3] w fun e w' => e = .returned (.int .i64 (or3 a b c)) ∧ w' = w := by
 go_enter Tryz.func45, Tryz.ntmps45
 go_wp2
 go_loopw [8] (fun v wr => ∃ i : Nat, v = .int .i64 i ∧ i ≤ 3 ∧ wr = w ∧ (1 ≤ i → a = 0) ∧ (2 ≤ i → b = 0) ∧ (3 ≤ i → c = 0)) (fun v _ => 3 - (match v with | .int _ n => n.toNat | _ => 0))
 case atStart => exact ⟨0, rfl, by omega, rfl, by omega, by omega, by omega⟩
 case round =>
  obtain ⟨i, rfl, hi, rfl, q1, q2, q3⟩ := hrel
  rcases (show i = 0 ∨ i = 1 ∨ i = 2 ∨ i = 3 by omega) with rfl | rfl | rfl | rfl
  ·go_wp2
   ·rename_i hh
    go_ret
    have hh : a ≠ 0 := by simpa using hh
    exact ⟨by simp [or3, hh], rfl⟩
   ·rename_i hh
    have hh : a = 0 := by simpa using hh
    exact ⟨⟨1, rfl, by omega, trivial, fun _ => hh, by omega, by omega⟩, by decide⟩
  ·have qa := q1 (by omega)
   go_wp2
   ·rename_i hh
    go_ret
    have hh : b ≠ 0 := by simpa using hh
    exact ⟨by simp [or3, hh, qa], rfl⟩
   ·rename_i hh
    have hh : b = 0 := by simpa using hh
    exact ⟨⟨2, rfl, by omega, trivial, fun _ => qa, fun _ => hh, by omega⟩, by decide⟩
  ·have qa := q1 (by omega)
   have qb := q2 (by omega)
   go_wp2
   ·rename_i hh
    go_ret
    have hh : c ≠ 0 := by simpa using hh
    exact ⟨by simp [or3, qb, qa], rfl⟩
   ·rename_i hh
    have hh : c = 0 := by simpa using hh
    exact ⟨⟨3, rfl, by omega, trivial, fun _ => qa, fun _ => qb, fun _ => hh⟩, by decide⟩
  ·have qa := q1 (by omega)
   have qb := q2 (by omega)
   have qc := q3 (by omega)
   go_wp2
   go_ret
   exact ⟨by simp [or3, qb, qa, qc], rfl⟩

def cf3 (x y : Int × Int × Int) : Int := or3 (Lib.compareInt x.1 y.1) (Lib.compareInt x.2.1 y.2.1) (Lib.compareInt x.2.2 y.2.2)
theorem linksCmp (x y : Int × Int × Int) (W : World) : Calls Tryz.prog 44 #[.agg #[.int .i64 x.1, .int .i64 x.2.1, .int .i64 x.2.2], .agg #[.int .i64 y.1, .int .i64 y.2.1, .int .i64 y.2.2]] W fun e w' => e = .returned (.int .i64 (cf3 x y)) ∧ ∃ q os', w' = grow (W.drewN q) os' := by
 obtain ⟨x1, x2, x3⟩ := x
 obtain ⟨y1, y2, y3⟩ := y
 have c1 := fun W' => compare_c x1 y1 W'
 have c2 := fun W' => compare_c x2 y2 W'
 have c3 := fun W' => compare_c x3 y3 W'
 simp only [cf3]
 generalize Lib.compareInt x1 y1 = r1 at c1 ⊢
 generalize Lib.compareInt x2 y2 = r2 at c2 ⊢
 generalize Lib.compareInt x3 y3 = r3 at c3 ⊢
 go_enter Tryz.func44, Tryz.ntmps44
 go_upto_region 1 with (fail)
 obtain ⟨W2, hW2⟩ : ∃ W2, (W.alloc (.cells #[.int .i64 x1, .int .i64 x2, .int .i64 x3] 51)).alloc (.cells #[.int .i64 y1, .int .i64 y2, .int .i64 y3] 51) = W2 := ⟨_, rfl⟩
 change Code.wp _ _ _ _ ((W.alloc (.cells #[.int .i64 x1, .int .i64 x2, .int .i64 x3] 51)).alloc (.cells #[.int .i64 y1, .int .i64 y2, .int .i64 y3] 51))
 rw [hW2]
 have k0 : W2.cell? ⟨W.heap.size, 0, none⟩ = some (.int .i64 x1) := by rw [← hW2]; simp
 have k1 : W2.cell? ⟨W.heap.size, 1, none⟩ = some (.int .i64 x2) := by rw [← hW2]; simp
 have k2 : W2.cell? ⟨W.heap.size, 2, none⟩ = some (.int .i64 x3) := by rw [← hW2]; simp
 have l0 : W2.cell? ⟨W.heap.size + 1, 0, none⟩ = some (.int .i64 y1) := by rw [← hW2]; simp
 have l1 : W2.cell? ⟨W.heap.size + 1, 1, none⟩ = some (.int .i64 y2) := by rw [← hW2]; simp
 have l2 : W2.cell? ⟨W.heap.size + 1, 2, none⟩ = some (.int .i64 y3) := by rw [← hW2]; simp
 refine wp_region_still_tail 19 (by kernel_rfl) (by kernel_rfl) ?_
 simp only [List.take_succ_cons, List.take_zero, List.drop_succ_cons, List.drop_zero]
 iterate 4 still_step
 still_call (c1 _)
 iterate 6 still_step
 still_call (c2 _)
 iterate 6 still_step
 still_call (c3 _)
 refine wpStill_nil ?_
 change wpList _ _ _ _ _ W2.drew
 have fin : ∀ o : Obj, ∃ q os', W2.drew.alloc o = grow (W.drewN q) os' := fun o => by
  refine ⟨1, #[.cells #[.int .i64 x1, .int .i64 x2, .int .i64 x3] 51, .cells #[.int .i64 y1, .int .i64 y2, .int .i64 y3] 51] ++ #[o], ?_⟩
  rw [← hW2, alloc_eq_grow, ← grow_grow, alloc_eq_grow, alloc_eq_grow, grow_grow]; rfl
 generalize W2.drew = W3 at fin ⊢
 clear k0 k1 k2 l0 l1 l2 c1 c2 c3 hW2
 have hor := fun W' h0 h1 h2 => or_c W3.heap.size r1 r2 r3 W' h0 h1 h2
 go_wp2_with (go_at_call 45; refine (hor _ (by simp) (by simp) (by simp)).mono ?_; rintro e w' ⟨rfl, rfl⟩)
 go_ret
 exact ⟨rfl, fin _⟩
end Go.Ab
end

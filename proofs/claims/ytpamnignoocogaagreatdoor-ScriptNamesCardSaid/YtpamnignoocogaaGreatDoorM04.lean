import Derived.Test.YtpamnignoocogaaGreatDoorM15
import Derived.Test.YtpamnignoocogaaGreatDoorM03
import Derived.Test.YtpamnignoocogaaGreatDoorProg
import Derived.StillTailTactics
import Derived.Sort.Grow
import Derived.Lib.Small
import Derived.Lib.Walk
import Derived.BigRegion
import Derived.Deep.Draws
import Derived.Sort.CutIn
section
namespace Go.Proofs
open Go.Ab
noncomputable def gf.loop2 (x2 : List Int) (s1 : Int × List Int) (s2 : Int × List Int) : Option (Fl (Int × List Int) (Fl (List Int) (Fl (Int × List Int) (Fl (List Int) (List Int))))) :=
 bif (leqI 0 s2.1) then (
  need (NonN (mulI .i64 8 s2.1)) <|
  need (AppB (lenL s2.2) 1 1) <|
  some (.go ((subI .i64 s2.1 1), (appL s2.2 [(cvtI .u8 (shrI .u64 (nthI x2 s1.1) (mulI .i64 8 s2.1)))])))
 ) else (
   some (.out (.go s2.2))
 )
noncomputable def gf.loop1 (x1 : Int) (x2 : List Int) (s1 : Int × List Int) : Option (Fl (Int × List Int) (Fl (List Int) (List Int))) :=
 bif (ltI s1.1 (lenL x2)) then (
  need (InB s1.1 (lenL x2)) <|
  ((loopF (gf.loop2 x2 s1) ((subI .i64 (minI (maxI x1 1) 8) 1), s1.2)).bind fun f => flC f fun (v2 : List Int) =>
    some (.go ((addI .i64 s1.1 1), v2))
  )
 ) else (
   some (.out (.go s1.2))
 )
noncomputable def gf (x0 : List Int) (x1 : Int) (x2 : List Int) : Option (List Int) :=
 ((loopF (gf.loop1 x1 x2) (0, x0)).bind fun f => flC f fun (v1 : List Int) =>
   some v1
 )
noncomputable def gl.loop1 (x1 : List Int) (s1 : Int × List Int) : Option (Fl (Int × List Int) (Fl (List Int) (List Int))) :=
 bif (ltI s1.1 (lenL x1)) then (
  need (InB s1.1 (lenL x1)) <|
  ((gf s1.2 2 [(cvtI .u64 (nthI x1 s1.1))])).bind fun r1 =>
  some (.go ((addI .i64 s1.1 1), r1))
 ) else (
   some (.out (.go s1.2))
 )
noncomputable def gl (x0 : List Int) (x1 : List Int) : Option (List Int) :=
 ((loopF (gl.loop1 x1) (0, x0)).bind fun f => flC f fun (v1 : List Int) =>
   some v1
 )
noncomputable def gm.loop1 (x1 : List Int) (s1 : Int × List Int) : Option (Fl (Int × List Int) (Fl (List Int) (List Int))) :=
 bif (ltI s1.1 (lenL x1)) then (
  need (InB s1.1 (lenL x1)) <|
  ((gf s1.2 4 [(cvtI .u64 (nthI x1 s1.1))])).bind fun r1 =>
  some (.go ((addI .i64 s1.1 1), r1))
 ) else (
   some (.out (.go s1.2))
 )
noncomputable def gm (x0 : List Int) (x1 : List Int) : Option (List Int) :=
 ((loopF (gm.loop1 x1) (0, x0)).bind fun f => flC f fun (v1 : List Int) =>
   some v1
 )
noncomputable def gn.loop1 (x1 : List ByteArray) (s1 : Int × List Int) : Option (Fl (Int × List Int) (Fl (List Int) (List Int))) :=
 bif (ltI s1.1 (lenL x1)) then (
  need (InB s1.1 (lenL x1)) <|
  need (0 < lenS (nthI x1 s1.1)) <|
  need (AppB (lenL s1.2) (lenS (nthI x1 s1.1)) 1) <|
  some (.go ((addI .i64 s1.1 1), (appL s1.2 (numsOf (nthI x1 s1.1)))))
 ) else (
   some (.out (.go s1.2))
 )
noncomputable def gn (x0 : List Int) (x1 : List ByteArray) : Option (List Int) :=
 ((loopF (gn.loop1 x1) (0, x0)).bind fun f => flC f fun (v1 : List Int) =>
   some v1
 )
end Go.Proofs
end
section
namespace Go.Proofs
open Go.Ab
noncomputable def gab (x0 : Int) : Option Int :=
 bif (ltI x0 128) then (
  some 1
 ) else (
   bif (ltI x0 2048) then (
    some 2
   ) else (
     bif (ltI x0 65536) then (
      some 3
     ) else (
       some 4
     )
   )
 )
noncomputable def gW (x0 : Int) : Option Int :=
 bif (pickB (pickB (eqI x0 45) true (eqI x0 95)) true (eqI x0 46)) then (
  some 3
 ) else (
   need (I32B x0) <|
   bif (letterR x0) then (
    some 1
   ) else (
     need (I32B x0) <|
     bif (digitR x0) then (
      some 2
     ) else (
       some 0
     )
   )
 )
noncomputable def gI.loop1 (x0 : ByteArray) (s1 : Int × List Int × Nat) : Option (Fl (Int × List Int × Nat) (Fl (List Int) (List Int × Bool))) :=
 bif (nextB x0 s1.2.2) then (
  ((gab (runeS x0 s1.2.2))).bind fun r1 =>
  need (Under (ltI (lenS x0) (addI .i64 s1.1 r1)) false (CutB s1.1 (addI .i64 s1.1 r1) (lenS x0))) <|
  bif (pickB (ltI (lenS x0) (addI .i64 s1.1 r1)) true (neS (runesBytes [(runeS x0 s1.2.2)]) (cutS x0 s1.1 (addI .i64 s1.1 r1)))) then (
   some (.out (.out ([], false)))
  ) else (
    need (AppB (lenL s1.2.1) 1 4) <|
    some (.go ((addI .i64 s1.1 r1), (appL s1.2.1 [(runeS x0 s1.2.2)]), (stepS x0 s1.2.2)))
  )
 ) else (
   some (.out (.go s1.2.1))
 )
noncomputable def gI (x0 : ByteArray) : Option (List Int × Bool) :=
 ((loopF (gI.loop1 x0) (0, [], 0)).bind fun f => flC f fun (v1 : List Int) =>
   some (v1, true)
 )
noncomputable def gE.loop1 (r1 : List Int × Bool) (s1 : Int) : Option (Fl Int (Fl Unit Bool)) :=
 bif (ltI s1 (lenL r1.1)) then (
  need (InB s1 (lenL r1.1)) <|
  ((gW (nthI r1.1 s1))).bind fun r2 =>
  need (Under (pickB (eqI s1 0) true (eqI s1 (subI .i64 (lenL r1.1) 1))) false (Under (eqI r2 3) true (Under (eqI r2 0) false (InB (subI .i64 s1 1) (lenL r1.1))))) <|
  need (Under (pickB (eqI s1 0) true (eqI s1 (subI .i64 (lenL r1.1) 1))) false (Under (eqI r2 3) true (Under (eqI r2 0) false ((gW (nthI r1.1 (subI .i64 s1 1))).isSome = true)))) <|
  bif (pickB (eqI r2 0) true (pickB (eqI r2 3) (pickB (pickB (eqI s1 0) true (eqI s1 (subI .i64 (lenL r1.1) 1))) true (eqI ((gW (nthI r1.1 (subI .i64 s1 1))).getD dflt) 3)) false)) then (
   some (.out (.out false))
  ) else (
    some (.go (addI .i64 s1 1))
  )
 ) else (
   some (.out (.go ()))
 )
noncomputable def gE (x0 : ByteArray) : Option Bool :=
 ((gI x0)).bind fun r1 =>
 bif (pickB (pickB (notB r1.2) true (ltI (lenL r1.1) 1)) true (ltI 16 (lenL r1.1))) then (
  some false
 ) else (
   ((loopF (gE.loop1 r1) 0).bind fun f => flC f fun (_v1 : Unit) =>
     some true
   )
 )
end Go.Proofs
end
section
namespace Go.Ab
section
variable {n B : Nat} {A : Env} {M M' : List AObj}
variable {K T : Type} {key : Value → Prop} {kE : K → Value} {fl : T → AV} {N : T → List AObj} {V : T → AV} {eq : K → K → Bool}
end
section
variable {n B : Nat} {A : Env} {M M' : List AObj}
variable {T : Type} {key : Value → Prop} {kk : IntKind} {fl : T → AV} {N : T → List AObj} {V : T → AV}
end
attribute [simp] AObj.isRoom
def frzO (i : Nat) (els : List (List AV)) : AObj → AObj
 | .blk cs => .blk (cs.map (lendA i els))
 | o => o
def frzE (i : Nat) (els : List (List AV)) (A : Env) : Env := A.map fun e => ⟨e.t, e.tag, lendB i els e.av⟩
def frzOk (i s : Nat) (els : List (List AV)) : List AObj → Prop
 | [] => True
 | .blk cs :: r => lendO i s els cs ∧ frzOk i s els r
 | _ :: r => frzOk i s els r
theorem lendO_get {i s : Nat} {els : List (List AV)} : ∀ {cs : List AV}, lendO i s els cs → ∀ j (hj : j < cs.length), ∀ k n z, cs[j] = .asl k n z → k = i → z = s ∧ n = lenL els
 | [], _, j, hj, _, _, _, _, _ => by simp at hj
 | c :: cs, ho, j, hj, k, n, z, he, hk => by
   cases j with
   | zero =>
     simp only [List.getElem_cons_zero] at he;subst he;exact ho.1 hk
   | succ j =>
     refine lendO_get (cs := cs) ?_ j (by simpa using hj) k n z (by simpa using he) hk;cases c <;> first | exact ho.2 | exact ho
theorem frzOk_get {i s : Nat} {els : List (List AV)} : ∀ {M : List AObj}, frzOk i s els M → ∀ cs, AObj.blk cs ∈ M → lendO i s els cs
 | [], _, _, h => by cases h
 | o :: r, ho, cs, h => by
   rcases List.mem_cons.1 h with rfl | h
   ·exact ho.1
   ·refine frzOk_get (M := r) ?_ cs h;cases o <;> first | exact ho.2 | exact ho
theorem lendP_mem {i s : Nat} {els : List (List AV)} : ∀ {l : List AV}, lendP i s els l → ∀ a ∈ l, (∀ cs, a = .agg cs → lendO i s els cs) ∧ ∀ k n z, a = .asl k n z → k = i → z = s ∧ n = lenL els
 | [], _, a, h => by cases h
 | c :: r, ho, a, h => by
   rcases List.mem_cons.1 h with rfl | h
   ·refine ⟨fun cs e => by subst e; exact ho.1, fun k n z e hk => by subst e; exact ho.1 hk⟩
   ·refine lendP_mem (l := r) ?_ a h;cases c <;> first | exact ho.2 | exact ho
theorem See.freeze {n B : Nat} {A : Env} {M : List AObj} (i : Nat) {s : Nat} {els : List (List AV)} {σ' : St} (hM : M[i]? = some (.arr s els)) (hA : lendP i s els (A.map Ent.av)) (hO : frzOk i s els M)
  (hs : (⟨frzE i els A, (M.set i .dead).map (frzO i els)⟩ : St) = σ') : See n B ⟨A, M⟩ σ' := by
 subst hs;rintro g0 g a ⟨b1, b2, b3, b4, sm, b6, b7, b8⟩;simp only at b4;subst b4;have hwm : WMem g.M (g.M.set i .dead) := WMem.toSet hM (.dead _)
 let g1 : G := ⟨g.M.set i .dead, g.β, g.ρ, g.w, g.X⟩
 have s1 : Sim g1 := sm.wmem hwm
 have hr1 : ∀ a, g1.reg a → g.reg a := fun a h => by
  rcases h with h | ⟨j, o', hj, hc⟩
  ·exact .inl h
  ·obtain ⟨o, ho, hw⟩ := hwm.get hj;exact Lk ho (hw.covers hc)
 have hno : els ≠ [] → ∀ a, g1.reg a → a.block ≠ g.β i := fun hne a h hb => by
  have hc : (AObj.arr s els).covers (g.β i) (g.ρ i) a := ⟨hne, hb⟩;rcases h with h | ⟨j, o', hj, hcj⟩
  ·exact sm.xdis a h ⟨i, _, hM, hc⟩
  ·rcases put_get hj with ⟨q1, q2⟩ | ⟨_, q2⟩
   ·exact q1 (sm.disj j i o' _ a q2 hM hcj hc)
   ·subst q2; exact hcj.elim
 have one : ∀ {a : AV} {v : Value}, R g a v → (∀ j n z, a = .asl j n z → j = i → z = s ∧ n = lenL els) → R g1 (lendA i els a) v := fun {a v} q ho => by
  cases a with
  | asl j n z =>
    by_cases hj : j = i
    ·have e : lendA i els (.asl j n z) = .sl els .no := by simp [lendA, hj]
     rw [e];obtain ⟨hz, hn⟩ := ho j n z rfl hj;cases q with
     | asl _ _ _ m cap ad _ hm hc hz' ha =>
     subst hj;have hlen : els.length = m := by unfold lenL at hn; omega
     subst hlen;by_cases hne : els = []
     ·subst hne;rcases hz' with rfl | ⟨b, off, rfl⟩
      ·exact .nil _ trivial
      ·exact .sl [] .no b off 0 cap (fun _ _ => undef) (by simp) (by simp) (by simp) (by simp) (by simp) trivial hc
     ·have := ha (List.length_pos_iff.2 hne);subst this;obtain ⟨xs, T, h1, h2, h3⟩ := sm.arr j s els hM hne
      have key : ∀ p q (hp : p < els.length) (hq : q < s), p * s + q < xs.size ∧ R g (els[p][q]'(by rw [h2 _ (List.getElem_mem hp)]; exact hq)) (xs.getD (p * s + q) undef) ∧ (xs.getD (p * s + q) undef).oneCell' = true := fun p q hp hq =>
       h3 p q els[p] _ (List.getElem?_eq_getElem hp) (List.getElem?_eq_getElem _)
      refine .sl els .no _ 0 s cap (fun p q => xs.getD (p * s + q) undef) (fun p hp => h2 _ (List.getElem_mem hp)) (fun p q hp hq => ?_) (fun p q hp hq hr => hno hne _ hr rfl) (fun p q hp hq => ?_) (fun p q hp hq => (key p q hp hq).2.2) trivial hc
      ·have := (key p q hp hq).1;simp [g1, World.cell?, h1, Array.getD, this]
      ·have hq' : q < s := by rw [← h2 _ (List.getElem_mem hp)]; exact hq
       exact (key p q hp hq').2.1.wmem hwm
    ·have e : lendA i els (.asl j n z) = .asl j n z := by simp [lendA, hj]
     rw [e]; exact q.wmem hwm
  | _ => exact q.wmem hwm
 have two : ∀ {a : AV} {v : Value}, R g a v → (∀ cs, a = .agg cs → lendO i s els cs) → (∀ j n z, a = .asl j n z → j = i → z = s ∧ n = lenL els) → R g1 (lendB i els a) v := fun {a v} q ho1 ho2 => by
  cases a with
  | agg cs =>
    cases q with
    | agg _ xs hs hx h4 =>
      refine .agg _ xs (by simpa using hs) (fun j hj => ?_) (fun j hj => h4 j (by simpa using hj));have hj' : j < cs.length := by simpa using hj
      simp only [List.getElem_map];exact one (hx j hj') fun k n z he hk => lendO_get (ho1 cs rfl) j hj' k n z he hk
  | asl j n z => exact one q ho2
  | _ => exact one q fun j' n' z' he => by cases he
 let M2 := (g.M.set i .dead).map (frzO i els)
 let g2 : G := ⟨M2, g.β, g.ρ, g.w, g.X⟩
 have hget : ∀ {j : Nat} {o : AObj}, M2[j]? = some o → ∃ o', (g.M.set i .dead)[j]? = some o' ∧ o = frzO i els o' := fun {j o} h => by
  rw [List.getElem?_map] at h;obtain ⟨o', h1, h2⟩ := Option.map_eq_some_iff.1 h;exact ⟨o', h1, h2.symm⟩
 have hcov : ∀ {o : AObj} {b : Nat} {r : Room} {a : Addr}, (frzO i els o).covers b r a ↔ o.covers b r a := fun {o b r a} => by cases o <;> exact Iff.rfl
 have hreg2 : ∀ a, g2.reg a ↔ g1.reg a := fun a => by
  constructor
  ·rintro (h | ⟨j, o, hj, hc⟩)
   ·exact .inl h
   ·obtain ⟨o', h1, rfl⟩ := hget hj;exact .inr ⟨j, o', h1, hcov.1 hc⟩
  ·rintro (h | ⟨j, o, hj, hc⟩)
   ·exact .inl h
   ·refine .inr ⟨j, frzO i els o, ?_, hcov.2 hc⟩;show ((g.M.set i .dead).map (frzO i els))[j]? = _;have hj' : (g.M.set i .dead)[j]? = some o := hj;rw [List.getElem?_map, hj']; rfl
 have k12 : Keep0 g1 g2 := by
  refine ⟨by simp [g1, g2, M2], fun _ _ => rfl, fun t ht e he => ?_, Nat.le_refl _, fun _ _ h _ => h, fun a _ h q => h ((hreg2 a).1 q), fun _ _ _ => rfl, ⟨rfl, rfl⟩⟩;obtain ⟨o', h1, h2⟩ := hget he;cases o' <;> simp only [frzO, reduceCtorEq, AObj.room.injEq] at h2;subst h2;exact ⟨_, h1, Nat.le_refl _, fun _ => rfl⟩
 have hin2 : ∀ a, g2.reg a → a.block < g2.w.heap.size := fun a h => s1.inb a ((hreg2 a).1 h)
 have s2 : Sim g2 := by
  refine ⟨Facts.less (g := g1) rfl (fun a h => (hreg2 a).1 h) s1.fct, fun j cells hj => ?_, fun j t pos hj => ?_, fun t e ht => ?_, fun j j' oj oj' a hj hj' hcj hcj' => ?_, hin2, fun a ha => ?_, fun j es hj => ?_, fun j es vis cur t hj => ?_, fun j φ hj => ?_, fun j P cur hj => ?_, fun j z es hj => ?_⟩
  ·obtain ⟨o', h1, h2⟩ := hget hj;cases o' <;> simp only [frzO, reduceCtorEq, AObj.blk.injEq] at h2;rename_i cs;subst h2;obtain ⟨q1, q2⟩ | ⟨_, q2⟩ := put_get h1
   ·obtain ⟨xs, T, r1, r2, r3, r4⟩ := sm.blk j cs q2;refine ⟨xs, T, r1, by simpa using r2, fun k hk => ?_, fun k hk => r4 k (by simpa using hk)⟩;have hk' : k < cs.length := by simpa using hk
    simp only [List.getElem_map];exact (one (r3 k hk') fun k' n z he hkk => lendO_get (frzOk_get hO cs (List.mem_of_getElem? q2)) k hk' k' n z he hkk).keep0 k12
   ·cases q2
  ·obtain ⟨o', h1, h2⟩ := hget hj;cases o' <;> simp only [frzO, reduceCtorEq, AObj.iter.injEq] at h2;obtain ⟨rfl, rfl⟩ := h2;exact s1.iter j _ _ h1
  ·obtain ⟨o', h1, h2⟩ := hget ht;cases o' <;> simp only [frzO, reduceCtorEq, AObj.room.injEq] at h2;subst h2;exact s1.room t _ h1
  ·obtain ⟨o1, h1, rfl⟩ := hget hj;obtain ⟨o2, h2, rfl⟩ := hget hj';exact s1.disj j j' o1 o2 a h1 h2 (hcov.1 hcj) (hcov.1 hcj')
  ·rintro ⟨j, o, hj, hc⟩;obtain ⟨o1, h1, rfl⟩ := hget hj;exact s1.xdis a ha ⟨j, o1, h1, hcov.1 hc⟩
  ·obtain ⟨o', h1, h2⟩ := hget hj;cases o' <;> simp only [frzO, reduceCtorEq, AObj.mapo.injEq] at h2;subst h2;obtain ⟨o, q1, q2⟩ := s1.mapo j _ h1;exact ⟨o, q1, q2.keep0 k12⟩
  ·obtain ⟨o', h1, h2⟩ := hget hj;cases o' <;> simp only [frzO, reduceCtorEq, AObj.mapr.injEq] at h2;obtain ⟨rfl, rfl, rfl, rfl⟩ := h2;obtain ⟨t1, t2, o, oi, q1, q2, q3⟩ := s1.mapr j _ _ _ _ h1;exact ⟨Nat.lt_of_lt_of_le t1 k12.len, t2, o, oi, q1, q2, q3.keep0 k12⟩
  ·obtain ⟨o', h1, h2⟩ := hget hj;cases o' <;> simp only [frzO, reduceCtorEq, AObj.opq.injEq] at h2;subst h2;exact s1.opq j _ h1
  ·obtain ⟨o', h1, h2⟩ := hget hj;cases o' <;> simp only [frzO, reduceCtorEq, AObj.own.injEq] at h2;obtain ⟨rfl, rfl⟩ := h2;exact s1.ownKeep k12 hin2 h1 hj rfl rfl fun _ _ => rfl
  ·obtain ⟨o', h1, h2⟩ := hget hj;cases o' <;> simp only [frzO, reduceCtorEq, AObj.arr.injEq] at h2;obtain ⟨rfl, rfl⟩ := h2;exact (s1.arr j _ _ h1).keep0 k12 fun _ => rfl
 have kg : Keep g g2 := by
  have hr2 : ∀ a, g2.reg a → g.reg a := fun a h => hr1 a ((hreg2 a).1 h);refine ⟨⟨by simp [g2, M2], fun _ _ => rfl, fun t ht e he => ?_, Nat.le_refl _, fun _ _ h _ => h, fun a _ h q => h (hr2 a q), fun _ _ _ => rfl, ⟨rfl, rfl⟩⟩, fun _ h => h, fun _ _ _ => ⟨rfl, rfl⟩, fun _ _ _ => rfl⟩;obtain ⟨o', h1, h2⟩ := hget he;cases o' <;> simp only [frzO, reduceCtorEq, AObj.room.injEq] at h2;subst h2;rcases put_get h1 with ⟨_, q2⟩ | ⟨_, q2⟩
  ·exact ⟨_, q2, Nat.le_refl _, fun _ => rfl⟩
  ·cases q2
 refine ⟨g2, rfl, b1, b2, b3.trans kg, rfl, s2, fun t tag av he => ?_, b7, b8⟩
 have hent : ∀ {A : Env}, ent (frzE i els A) t = (ent A t).map fun p => (p.1, lendB i els p.2) := fun {A} => by
  induction A with
  | nil => rfl
  | cons e r ih =>
    show (if e.t = t then some (e.tag, lendB i els e.av) else ent (frzE i els r) t) = (if e.t = t then some (e.tag, e.av) else ent r t).map fun p => (p.1, lendB i els p.2);by_cases h : e.t = t
    ·rw [if_pos h, if_pos h]; rfl
    ·rw [if_neg h, if_neg h]; exact ih
 rw [hent] at he;obtain ⟨⟨tag', av'⟩, he1, he2⟩ := Option.map_eq_some_iff.1 he;simp only [Prod.mk.injEq] at he2;obtain ⟨rfl, rfl⟩ := he2;have hmem : av' ∈ A.map Ent.av := List.mem_map.2 ⟨_, ent_mem he1, rfl⟩;obtain ⟨m1, m2⟩ := lendP_mem hA av' hmem;have q := b6 t tag' av' he1;have hRR : R g av' (a.tmps.getD t undef) → R g2 (lendB i els av') (a.tmps.getD t undef) := fun q => (two q m1 m2).keep0 k12;rw [tagRel_eq] at q ⊢;cases tag' with
 | none => exact hRR q
 | some τ => exact ⟨fun h => hRR (q.1 h), q.2⟩
attribute [simp] frzO frzE frzOk
end Go.Ab
end
section
set_option maxRecDepth 100000
set_option maxHeartbeats 1000000
namespace Go.Ab
open Go.Proofs Go.RowKit Go.Lib Go.Sort
theorem isNaN_c (x : Int) (w : World) : Calls Tryz.prog 286 #[.int .i64 x] w fun e w' => e = .returned (.bool false) ∧ w' = w := by
 go_enter Tryz.func286, Tryz.ntmps286
 go_wp2;go_ret;exact ⟨by simp, rfl⟩
theorem compare_c (x y : Int) (w : World) : Calls Tryz.prog 274 #[.int .i64 x, .int .i64 y] w fun e w' => e = .returned (.int .i64 (Lib.compareInt x y)) ∧ w' = w := by
 go_enter Tryz.func274, Tryz.ntmps274
 go_wp2_with (go_at_call 286; refine (isNaN_c _ _).mono ?_; rintro e w' ⟨rfl, hw⟩; rw [hw])
 all_goals (go_ret; refine ⟨?_, rfl⟩; unfold Lib.compareInt; (repeat' split) <;> first | rfl | (exfalso; omega))
def or3 (a b c : Int) : Int := if a ≠ 0 then a else if b ≠ 0 then b else c
theorem or_c (B : Nat) (a b c : Int) (w : World) (h0 : w.cell? ⟨B, 0, none⟩ = some (.int .i64 a)) (h1 : w.cell? ⟨B, 1, none⟩ = some (.int .i64 b)) (h2 : w.cell? ⟨B, 2, none⟩ = some (.int .i64 c)) :
  Calls Tryz.prog 273 #[.slice (some ⟨B, 0, none⟩) 3 3] w fun e w' => e = .returned (.int .i64 (or3 a b c)) ∧ w' = w := by
 go_enter Tryz.func273, Tryz.ntmps273
 go_wp2
 go_loopw [8] (fun v wr => ∃ i : Nat, v = .int .i64 i ∧ i ≤ 3 ∧ wr = w ∧ (1 ≤ i → a = 0) ∧ (2 ≤ i → b = 0) ∧ (3 ≤ i → c = 0)) (fun v _ => 3 - (match v with | .int _ n => n.toNat | _ => 0))
 case atStart => exact ⟨0, rfl, by omega, rfl, by omega, by omega, by omega⟩
 case round =>
  obtain ⟨i, rfl, hi, rfl, q1, q2, q3⟩ := hrel;rcases (show i = 0 ∨ i = 1 ∨ i = 2 ∨ i = 3 by omega) with rfl | rfl | rfl | rfl
  ·go_wp2
   ·rename_i hh;go_ret;have hh : a ≠ 0 := by simpa using hh
    exact ⟨by simp [or3, hh], rfl⟩
   ·rename_i hh;have hh : a = 0 := by simpa using hh
    exact ⟨⟨1, rfl, by omega, trivial, fun _ => hh, by omega, by omega⟩, by decide⟩
  ·have qa := q1 (by omega);go_wp2
   ·rename_i hh;go_ret;have hh : b ≠ 0 := by simpa using hh
    exact ⟨by simp [or3, hh, qa], rfl⟩
   ·rename_i hh;have hh : b = 0 := by simpa using hh
    exact ⟨⟨2, rfl, by omega, trivial, fun _ => qa, fun _ => hh, by omega⟩, by decide⟩
  ·have qa := q1 (by omega);have qb := q2 (by omega);go_wp2
   ·rename_i hh;go_ret;have hh : c ≠ 0 := by simpa using hh
    exact ⟨by simp [or3, qb, qa], rfl⟩
   ·rename_i hh;have hh : c = 0 := by simpa using hh
    exact ⟨⟨3, rfl, by omega, trivial, fun _ => qa, fun _ => qb, fun _ => hh⟩, by decide⟩
  ·have qa := q1 (by omega);have qb := q2 (by omega);have qc := q3 (by omega);go_wp2;go_ret;exact ⟨by simp [or3, qb, qa, qc], rfl⟩
def cf3 (x y : Int × Int × Int) : Int := or3 (Lib.compareInt x.1 y.1) (Lib.compareInt x.2.1 y.2.1) (Lib.compareInt x.2.2 y.2.2)
theorem linksCmp (x y : Int × Int × Int) (W : World) : Calls Tryz.prog 272 #[.agg #[.int .i64 x.1, .int .i64 x.2.1, .int .i64 x.2.2], .agg #[.int .i64 y.1, .int .i64 y.2.1, .int .i64 y.2.2]] W fun e w' => e = .returned (.int .i64 (cf3 x y)) ∧ ∃ q os', w' = grow (W.drewN q) os' := by
 obtain ⟨x1, x2, x3⟩ := x;obtain ⟨y1, y2, y3⟩ := y;have c1 := fun W' => compare_c x1 y1 W';have c2 := fun W' => compare_c x2 y2 W';have c3 := fun W' => compare_c x3 y3 W';simp only [cf3];generalize Lib.compareInt x1 y1 = r1 at c1 ⊢;generalize Lib.compareInt x2 y2 = r2 at c2 ⊢;generalize Lib.compareInt x3 y3 = r3 at c3 ⊢
 go_enter Tryz.func272, Tryz.ntmps272
 go_upto_region 1 with (fail)
 obtain ⟨W2, hW2⟩ : ∃ W2, (W.alloc (.cells #[.int .i64 x1, .int .i64 x2, .int .i64 x3] 303)).alloc (.cells #[.int .i64 y1, .int .i64 y2, .int .i64 y3] 303) = W2 := ⟨_, rfl⟩;change Code.wp _ _ _ _ ((W.alloc (.cells #[.int .i64 x1, .int .i64 x2, .int .i64 x3] 303)).alloc (.cells #[.int .i64 y1, .int .i64 y2, .int .i64 y3] 303));rw [hW2];have k0 : W2.cell? ⟨W.heap.size, 0, none⟩ = some (.int .i64 x1) := by rw [← hW2]; simp
 have k1 : W2.cell? ⟨W.heap.size, 1, none⟩ = some (.int .i64 x2) := by rw [← hW2]; simp
 have k2 : W2.cell? ⟨W.heap.size, 2, none⟩ = some (.int .i64 x3) := by rw [← hW2]; simp
 have l0 : W2.cell? ⟨W.heap.size + 1, 0, none⟩ = some (.int .i64 y1) := by rw [← hW2]; simp
 have l1 : W2.cell? ⟨W.heap.size + 1, 1, none⟩ = some (.int .i64 y2) := by rw [← hW2]; simp
 have l2 : W2.cell? ⟨W.heap.size + 1, 2, none⟩ = some (.int .i64 y3) := by rw [← hW2]; simp
 refine wp_region_still_tail 19 (by kernel_rfl) (by kernel_rfl) ?_;simp only [List.take_succ_cons, List.take_zero, List.drop_succ_cons, List.drop_zero]
 iterate 4 still_step
 still_call (c1 _)
 iterate 6 still_step
 still_call (c2 _)
 iterate 6 still_step
 still_call (c3 _)
 refine wpStill_nil ?_;change wpList _ _ _ _ _ W2.drew
 have fin : ∀ o : Obj, ∃ q os', W2.drew.alloc o = grow (W.drewN q) os' := fun o => by
  refine ⟨1, #[.cells #[.int .i64 x1, .int .i64 x2, .int .i64 x3] 303, .cells #[.int .i64 y1, .int .i64 y2, .int .i64 y3] 303] ++ #[o], ?_⟩;rw [← hW2, alloc_eq_grow, ← grow_grow, alloc_eq_grow, alloc_eq_grow, grow_grow]; rfl
 generalize W2.drew = W3 at fin ⊢;clear k0 k1 k2 l0 l1 l2 c1 c2 c3 hW2;have hor := fun W' h0 h1 h2 => or_c W3.heap.size r1 r2 r3 W' h0 h1 h2;go_wp2_with (go_at_call 273; refine (hor _ (by simp) (by simp) (by simp)).mono ?_; rintro e w' ⟨rfl, rfl⟩);go_ret;exact ⟨rfl, fin _⟩
end Go.Ab
end

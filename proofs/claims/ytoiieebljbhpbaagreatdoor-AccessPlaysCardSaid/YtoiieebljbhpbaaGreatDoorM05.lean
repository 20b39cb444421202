import Derived.Test.YtoiieebljbhpbaaGreatDoorKx
import Derived.Shelf.SlIterI.Collect
import Derived.Test.YtoiieebljbhpbaaGreatDoorAb8
import Derived.ProofKit
import Derived.OpenShut
import Derived.ChangeStays
import Derived.ReadAgain
section
namespace Go.Ab
open Go.Proofs Go.Maps Go.RowKit Go.Sort Go.Shelf ChangeMaps
structure KR (w : World) (b r : Nat) (ents : Array MapEntry) (clock : Nat) (es : List MapEntry) : Prop where
 map : w.heap[b]? = some (.map ents clock)
 it : ∃ c0, clock ≤ c0 ∧ w.heap[r]? = some (.mapIter (some b) clock (es.map (·.born)).toArray c0)
 sub : ∀ e ∈ es, e ∈ ents.toList
 nd : (es.map (·.born)).Nodup
variable {P : Program} {w : World} {b r : Nat} {ents : Array MapEntry} {clock : Nat} {es : List MapEntry}
theorem KR.walk (h : KR w b r ents clock es) : ∃ o : Obj, w.heap[r]? = some o ∧ o.isWalk = true := by
 obtain ⟨c0, _, h⟩ := h.it;exact ⟨_, h, rfl⟩
theorem KR.of_walks {w' : World} (h : KR w b r ents clock es) (k : KeepsWalks w w') : KR w' b r ents clock es := by
 obtain ⟨c0, h1, h2⟩ := h.it;exact ⟨k.same _ _ h.map rfl, ⟨c0, h1, k.same _ _ h2 rfl⟩, h.sub, h.nd⟩
theorem KR.left (h : KR w b r ents clock es) : w.rangeLeft b r = (leftOf ents (es.map (·.born)).toArray).size := by
 obtain ⟨c0, h1, h2⟩ := h.it;simp only [World.rangeLeft, h.map, h2]
theorem range_KR {t k e : TypeId} (ht : P.underlying t = some (.map k e)) (hb : w.heap[b]? = some (.map ents clock)) :
  ∃ w', (Instr.range t (.map (some b))).run P w = .ok (.pointer (some ⟨w.heap.size, 0, none⟩)) w' ∧ KR w' b w.heap.size ents clock [] ∧ w.grownBy w' none ∧ w'.heap.size = w.heap.size + 1 := by
 have hlt : b < w.heap.size := (Array.getElem?_eq_some_iff.1 hb).1;exact ⟨_, run_range_map w t k e b ents clock ht hb, ⟨((MapKept.heap_alloc w _).2 b hlt).trans hb, ⟨clock, Nat.le_refl _, (MapKept.heap_alloc w _).1⟩, fun _ h => (by cases h), .nil⟩, World.grownBy_alloc w _ none, by simp⟩
theorem KR.next (h : KR w b r ents clock es) (hold : ∀ x ∈ ents.toList, x.born < clock) (hnd : (ents.toList.map (·.born)).Nodup) (ty : TypeId) :
  (es.Perm ents.toList ∧ (Instr.next (.pointer (some ⟨r, 0, none⟩)) false ty).run P w = .ok (.tuple #[.bool false]) w) ∨
  ∃ e w', e ∈ ents.toList ∧ (Instr.next (.pointer (some ⟨r, 0, none⟩)) false ty).run P w = .ok (.tuple #[.bool true, e.key, e.val]) w' ∧ KR w' b r ents clock (es ++ [e]) ∧ es.length < ents.size ∧ w'.rangeLeft b r < w.rangeLeft b r ∧
    w.grownBy w' (some r) ∧ w'.heap.size = w.heap.size ∧ (Instr.entry (.pointer (some ⟨r, 0, none⟩))).run P w' = .ok (.tuple #[e.key, e.val]) w' := by
 obtain ⟨c0, hc, hr⟩ := h.it;have hne : r ≠ b := fun e => by rw [e, h.map] at hr; cases hr
 have hmn : ents.toList.Nodup := by
  unfold List.Nodup at hnd ⊢;rw [List.pairwise_map] at hnd;exact hnd.imp fun h q => h (by rw [q])
 have hen : es.Nodup := by
  have := h.nd;unfold List.Nodup at this ⊢;rw [List.pairwise_map] at this;exact this.imp fun h q => h (by rw [q])
 rcases run_next_at (P := P) w ty r b clock c0 (es.map (·.born)).toArray ents clock hr h.map hold hc with ⟨h0, hrun⟩ | ⟨e, he, w1, hal, hrun⟩
 ·left;refine ⟨(List.perm_ext_iff_of_nodup hen hmn).2 fun x => ⟨h.sub x, fun hx => ?_⟩, hrun⟩;have := all_seen ents _ h0 x hx;simp only [List.contains_toArray, List.contains_iff_mem, List.mem_map] at this;obtain ⟨y, hy, hyx⟩ := this;rw [← nodup_inj hnd (h.sub y hy) hx hyx]; exact hy
 ·right;obtain ⟨hem, hes⟩ := mem_left he;simp only [List.contains_toArray, ← Bool.not_eq_true, List.contains_iff_mem] at hes;have hr1 : w1.heap[r]? = some (.mapIter (some b) clock (es.map (·.born)).toArray c0) := by rcases hal with rfl | rfl <;> exact hr
  have hb1 : w1.heap[b]? = some (.map ents clock) := by rcases hal with rfl | rfl <;> exact h.map
  have hset := MapKept.heap_set (o' := .mapIter (some b) clock ((es.map (·.born)).toArray.push e.born) clock) hr1;have hb' : (ChangeMaps.setBlock w1 r (.mapIter (some b) clock ((es.map (·.born)).toArray.push e.born) clock)).heap[b]? = some (.map ents clock) := (hset.2 b (fun e1 => hne e1.symm)).trans hb1
  have hlen : es.length < ents.size := by
   have hx : e ∉ es := fun hx => hes (List.mem_map.2 ⟨e, hx, rfl⟩)
   have := nodup_le (l := e :: es) (m := ents.toList) (List.nodup_cons.2 ⟨hx, hen⟩) fun x hx => by
    rcases List.mem_cons.1 hx with rfl | hx
    ·exact hem
    ·exact h.sub x hx
   simp only [List.length_cons, Array.length_toList] at this;omega
  have hpush : (es.map (·.born)).toArray.push e.born = ((es ++ [e]).map (·.born)).toArray := by simp
  have hk : KR (ChangeMaps.setBlock w1 r (.mapIter (some b) clock ((es.map (·.born)).toArray.push e.born) clock)) b r ents clock (es ++ [e]) :=
   ⟨hb', ⟨clock, Nat.le_refl _, by rw [← hpush]; exact hset.1⟩, fun x hx => by
    rcases List.mem_append.1 hx with hx | hx
    ·exact h.sub x hx
    ·rw [List.mem_singleton.1 hx]; exact hem, by
    rw [List.map_append, List.nodup_append];refine ⟨h.nd, by simp, fun x hx y hy => ?_⟩;rintro rfl;rw [List.mem_singleton.1 hy] at hx;exact hes hx⟩
  refine ⟨e, _, hem, hrun, hk, hlen, ?_, ?_, ?_, run_entry_at _ r b clock _ ents clock e hset.1 hb' hem hnd⟩
  ·rw [hk.left, h.left, ← hpush];exact left_shrinks ents _ e he
  ·rcases hal with rfl | rfl <;> exact ⟨rfl, rfl, rfl, by simp [ChangeMaps.setBlock], fun i _ hi => hset.2 i (fun e1 => hi (by rw [e1]))⟩
  ·rcases hal with rfl | rfl <;> simp [ChangeMaps.setBlock]
section
variable {F : Fence} {n : Nat} {ops : Array Oper} {rest : List Oper} {o : Oper} {a : Act} {Q : Exit → Act → World → Prop}
theorem wpListIn_range_K (hg : o.guard = none) (m : Operand) (t : TypeId) (hop : o.op = Op.range t m) {k e : TypeId} (ht : P.underlying t = some (.map k e)) (hm : a.eval m = .map (some b)) (hb : w.heap[b]? = some (.map ents clock))
  (hK : ∀ w', KR w' b w.heap.size ents clock [] → w.grownBy w' none → w'.heap.size = w.heap.size + 1 → wpListIn F n P ops Q rest (a.put o.dst (.pointer (some ⟨w.heap.size, 0, none⟩))) w') :
  wpListIn F n P ops Q (o :: rest) a w := by
 refine wpListIn_plain hg fun K' hK' => ?_;obtain ⟨w', hrun, r1, r2, r3⟩ := range_KR (P := P) ht hb;unfold Oper.wpIn;refine ⟨?_, ?_⟩
 ·simp [Oper.about, hop]
 ·rw [Oper.semAt_plain F _ _ (by rw [hop]; intro c hc'; cases hc')];simp [execOp, hop, hm, hrun, Result.andThen];exact hK' _ _ (hK w' r1 r2 r3)
theorem wpListIn_next_K (hg : o.guard = none) (it : Operand) (hop : o.op = Op.next it false) (hit : a.eval it = .pointer (some ⟨r, 0, none⟩)) (h : KR w b r ents clock es) (hold : ∀ x ∈ ents.toList, x.born < clock) (hnd : (ents.toList.map (·.born)).Nodup)
  (hDone : es.Perm ents.toList → wpListIn F n P ops Q rest (a.put o.dst (.tuple #[.bool false])) w)
  (hMore : ∀ (e : MapEntry) (w' : World), e ∈ ents.toList → KR w' b r ents clock (es ++ [e]) → es.length < ents.size → w'.rangeLeft b r < w.rangeLeft b r → w.grownBy w' (some r) → w'.heap.size = w.heap.size →
   (Instr.entry (.pointer (some ⟨r, 0, none⟩))).run P w' = .ok (.tuple #[e.key, e.val]) w' → wpListIn F n P ops Q rest (a.put o.dst (.tuple #[.bool true, e.key, e.val])) w') :
  wpListIn F n P ops Q (o :: rest) a w := by
 refine wpListIn_plain hg fun K' hK' => ?_;unfold Oper.wpIn;refine ⟨by simp [Oper.about, hop], ?_⟩;rw [Oper.semAt_plain F _ _ (by rw [hop]; intro c hc'; cases hc')];rcases h.next (P := P) hold hnd o.type with ⟨h0, hrun⟩ | ⟨e, w', hem, hrun, hk, hlen, hlt, hgr, hsz, hen⟩
 ·simp [execOp, hop, hit, hrun, Result.andThen];exact hK' _ _ (hDone h0)
 ·simp [execOp, hop, hit, hrun, Result.andThen];exact hK' _ _ (hMore e w' hem hk hlen hlt hgr hsz hen)
end
end Go.Ab
end
section
namespace Go.Ab
open Go.ChangeShapes Go.WideShapes Go.ChangeAt Go.RowKit
structure Past (w w' : World) : Prop where
 kept : w.keptBut w' (fun _ => False)
 frozen : ∀ a : Addr, a.block < w.heap.size → w'.frozen? a = w.frozen? a
 size : w.heap.size ≤ w'.heap.size
 blocks : ∀ b, b < w.heap.size → w'.heap[b]? = w.heap[b]?
def g0 (w : World) : G := ⟨[], fun _ => 0, fun _ => ⟨0, 0, 0, nobs⟩, w, fun _ => False⟩
theorem no_reg0 (w : World) (a : Addr) : ¬ (g0 w).reg a := fun h => by
 rcases h with h | ⟨i, o, h, _⟩
 ·exact h
 ·simp [g0] at h
theorem sim0 (w : World) (hF : ∀ w' : World, (∀ b, b < w.heap.size → w'.heap[b]? = w.heap[b]?) → fctF w') : Sim (g0 w) where
 fct := ⟨fun b => b < w.heap.size, fun b hb => ⟨hb, fun _ => no_reg0 w _⟩, hF⟩
 blk i cells h := by simp [g0] at h
 iter i s p h := by simp [g0] at h
 room t e h := by simp [g0] at h
 disj i j oi oj a h := by simp [g0] at h
 inb a h := absurd h (no_reg0 w a)
 xdis a h := h.elim
 mapo i es h := by simp [g0] at h
 mapr i es vis cur t h := by simp [g0] at h
 opq i φ h := by simp [g0] at h
 own i P cur h := by simp [g0] at h
 arr i s els h := by simp [g0] at h
theorem past_of_keep {w : World} {g' : G} (k : Keep (g0 w) g') : Past w g'.w where
 kept := by
  refine ⟨k.io.1, k.io.2, fun i hi => ?_⟩;have h := k.blocks i hi fun off => no_reg0 w _;rw [h];simp only [g0];split
  ·rename_i c t fr c' t' fr' h1 h2;rw [h1] at h2; cases h2;exact ⟨rfl, rfl, rfl, fun _ _ => rfl⟩
  ·rename_i es clock es' clock' h1 h2;rw [h1] at h2; cases h2;exact .inr ⟨rfl, rfl⟩
  ·rfl
 frozen a ha := by
  have h := k.blocks a.block ha fun off => no_reg0 w _;simp only [World.frozen?, h];rfl
 size := k.size
 blocks b hb := k.blocks b hb fun off => no_reg0 w _
theorem walk_of_call {P : Program} {f : FuncId} {l : List AV} {vs : List Value} {w : World} {o : Prop} (h : CallOk P f l [] { av := .lit (.bool true), obl := o }) (hr : RL (g0 w) l vs) (ho : o) (hF : ∀ w' : World, (∀ b, b < w.heap.size → w'.heap[b]? = w.heap[b]?) → fctF w') :
  Calls P f vs.toArray w fun e w' => e = .returned (.bool true) ∧ Past w w' := by
 obtain ⟨_, c⟩ := h (g0 w) vs rfl (sim0 w hF) hr ho;refine c.mono fun e w' => ?_;rintro ⟨v, rfl, β, ρ, _, r, k⟩;cases r;exact ⟨rfl, past_of_keep k⟩
variable {H : Type} {enc : TypeId × Value → H} {P : Program}
theorem post_of_past {f : Func} {s : ChangeSpec} {apart fresh handsOn again : Bool} {W W' : World} {args : Array Value} {v : Value} {ds gs : List (DataW H)} {before pa pv : List MemPlace}
  (hW : DataW.Whole enc P f.params.toList s.vars apart W args.toList ds gs before)
  (hres : ∀ (b : Nat) (sp : Nat → Bool) (hd : Bool), DataW.TrodAll enc P W' b sp hd f.resultTypes.toList (v.resultList f.resultTypes.size) (s.fn H (ds ++ gs)).results [])
  (hargs : ∀ sp : Nat → Bool, (∀ p ∈ before, sp p.block = true) → DataW.TrodAll enc P W' 0 sp true f.params.toList args.toList (s.fn H (ds ++ gs)).args pa)
  (hvars : ∀ sp : Nat → Bool, (∀ p ∈ before, sp p.block = true) → DataW.TrodVars enc P W' sp s.vars (s.fn H (ds ++ gs)).vars pv)
  (hps : before = pa ++ pv) (hk : Past W W')
  (hok : ∀ (j : Nat) (t : TypeId) (r : Value), f.resultTypes[j]? = some t → (v.resultList f.resultTypes.size)[j]? = some r → Value.okWide P W' .any 0 t r) :
  s.post enc P f apart fresh handsOn again W args v W' := by
 have hlt := hW.lt;have hold : ∀ p ∈ before, (fun b => decide (b < W.heap.size)) p.block = true := fun p hp => by simpa using hlt p hp
 refine ⟨ds, gs, before, [], pa, pv, hW, hres _ _ _, hargs _ hold, hvars _ hold, World.keptBut_mono (fun p hp => hp.elim) hk.kept, fun _ => ?_⟩;obtain ⟨_, _, _, _, _, hz, hn⟩ := hW;refine ⟨hok, _, _, ([] ++ pa) ++ pv, ⟨[] ++ pa, pv, trodAll_append (hargs _ (fun _ _ => rfl)) (hres _ _ _), hvars _ (fun _ _ => rfl), rfl, ?_, ?_⟩, ?_⟩
 ·intro b off hp;have hp' : MemPlace.cell b off ∈ before := by rw [hps]; simpa using hp
  rw [hk.frozen _ (hlt _ hp')];exact hz b off hp'
 ·intro ha;have := hn ha;rw [hps] at this;simpa using this
 ·intro p hp _;rw [hps];simpa using hp
theorem split_by {α : Type} : ∀ (ss : List Nat) (cs : List α), cs.length = ss.sum →
  ∃ parts : List (List α), parts.length = ss.length ∧ cs = parts.flatten ∧ ∀ (j : Nat) s, ss[j]? = some s → parts[j]? = some ((cs.drop (ss.take j).sum).take s)
 | [], cs, h => ⟨[], rfl, by simpa using h, by simp⟩
 | s :: ss, cs, h => by
   obtain ⟨ps, h1, h2, h3⟩ := split_by ss (cs.drop s) (by simp at h ⊢; omega);refine ⟨cs.take s :: ps, by simp [h1], by simp [← h2], fun j t hj => ?_⟩;cases j with
   | zero => simp at hj ⊢; rw [hj]
   | succ j =>
     simp at hj;simp [h3 j t hj, List.drop_drop]
section
variable {w : World} {base : Nat} {sp : Nat → Bool} {held : Bool}
theorem cells_get {a : Addr} {n : Nat} {cs : List Value} (h : w.cells? base a n = some cs) : cs.length = n ∧ ∀ j (hj : j < cs.length), w.cell? (a.add j) = some cs[j] := by
 unfold World.cells? at h;split at h
 ·have hl : cs.length = n := by simpa using mapM_some_length h
  refine ⟨hl, fun j hj => ?_⟩;have := mapM_some_get h j j (by rw [List.getElem?_range (by omega)]);rw [this]; simp [hj]
 ·cases h
end
theorem trodAll_past {W W' : World} (K : Kids P (· < P.types.size)) (hz : ∀ {t e : TypeId}, t < P.types.size → P.underlying t = some (.slice e) → 0 < P.cellsOf e) (k : Past W W') {sp' : Nat → Bool} :
  ∀ {ts : List TypeId} {vs : List Value} {ds : List (DataW H)} {ps : List MemPlace}, (∀ t ∈ ts, t < P.types.size) → DataW.TrodAll enc P W 0 (fun _ => true) true ts vs ds ps → (∀ p ∈ ps, p.block < W.heap.size) → (∀ p ∈ ps, sp' p.block = true) →
    DataW.TrodAll enc P W' 0 sp' true ts vs ds ps
 | [], [], [], _, _, h, _, _ => h
 | t :: ts, v :: vs, d :: ds, ps, ht, ⟨p, q, ⟨n, h1⟩, h2, e⟩, hb, hs => by
   subst e
   refine ⟨p, q, ⟨n, DataW.trod_stays K hz (fun h => by cases h) (ht t (by simp)) h1 (fun x hx => ?_) (fun x hx => hs x (List.mem_append_left _ hx))⟩,
    trodAll_past K hz k (fun t' h' => ht t' (by simp [h'])) h2 (fun x hx => hb x (List.mem_append_right _ hx)) (fun x hx => hs x (List.mem_append_right _ hx)), rfl⟩
   have := hb x (List.mem_append_left _ hx);cases x with
   | cell b off => simp only [World.sameAt, World.cell?]; rw [k.blocks b this]
   | map b => exact k.blocks b this
theorem trodAll_len {w : World} {base : Nat} {sp : Nat → Bool} {held : Bool} : ∀ {ts : List TypeId} {vs : List Value} {ds : List (DataW H)} {ps : List MemPlace}, DataW.TrodAll enc P w base sp held ts vs ds ps → ds.length = ts.length
 | [], [], [], _, _ => rfl
 | _ :: _, _ :: _, _ :: _, _, ⟨_, _, _, h, _⟩ => by simp [trodAll_len h]
section
variable {t e : TypeId} {k : IntKind} {av : AV} {q : List AV}
end
end Go.Ab
end

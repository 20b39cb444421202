import Derived.Test.YtoiieebljbhpbaaGreatDoorAb9
import Derived.Test.YtoiieebljbhpbaaGreatDoorWa
section
namespace Go.Ab
attribute [simp] entry2Out entryKOut entryOut curR
variable {P : Program} {n B : Nat} {Q : Exit → St → Prop} {σ : St} {ty : TyTab} {Γ : Gam}
theorem AWp.regNext (hty : TyOk P ty) (hΓ : qbc P Γ) {id t u i d1 : Nat} {ops : Array Oper} {o1 : Oper} {rest : List Oper} (ho : ops.toList = o1 :: rest) (ho1 : o1.op = .next (.tmp t) false) (hg : o1.guard = none)
  (hd1 : o1.dst = some d1) {keep dead : List Nat} (hd : dstsOk ops n ops.toList [] = true) (hn : noTags σ.A = true) {es : List (AV × AV)} {vis : List Value} {cur : Option Value}
  (he : ent σ.A t = some (none, .it u)) (hM : σ.M[i]? = some (.mapr es vis cur u)) (hk : ∀ p ∈ es, ∃ k, p.1 = .lit k)
  (h0 : (∀ k v, (AV.lit k, v) ∈ es → k ∈ vis) → ∃ σ', regE keep dead ops.toList σ σ' (runR ty Γ ops rest (⟨d1, none, .tup [.lit (.bool false)]⟩ :: σ.A) σ.M) ∧ Q .normal σ')
  (h1 : ∀ k v x, k ∉ vis → (AV.lit k, v) ∈ es → ∃ σ', regE keep dead ops.toList σ σ' (runR ty Γ ops rest (⟨d1, none, .tup [.lit (.bool true), .lit k, .lit x]⟩ :: σ.A) (σ.M.set i (.mapr es (k :: vis) (some k) u))) ∧ Q .normal σ') :
  AWp P n B (.region id ops false) Q σ := by
 obtain ⟨A, M⟩ := σ;intro g0 g a at_;have hgM : g.M = M := at_.mem
 have htags : tagsIn A [] := fun e he τ hτ => by
  have := List.all_eq_true.1 hn e he;simp [hτ] at this
 have hd' := hd;rw [ho] at hd';unfold dstsOk at hd';rw [hd1] at hd';simp only [Bool.and_eq_true] at hd';obtain ⟨hda, hdb⟩ := hd';have htag : tagOf ops o1 = some none := by unfold tagOf; rw [hg]
 rw [htag] at hdb
 have hdl : d1 < a.tmps.size := by
  rw [at_.size];simpa using hda
 have tail : ∀ (g' : G) (v : Value) (av : AV) (M2 : List qau), Sim g' → Keep g g' → g'.X = g.X → g'.M = M2 → R g' av v →
   (∃ σ', regE keep dead ops.toList ⟨A, M⟩ σ' (runR ty Γ ops rest (⟨d1, none, av⟩ :: A) M2) ∧ Q .normal σ') →
   wpList P ops (fun e a' w' => ∃ σ' g', Q e σ' ∧ g'.w = w' ∧ At n B g0 g' a' σ') rest (a.put (some d1) v) g'.w := by
  rintro g' v av M2 s' k hx hM2 hr ⟨⟨A', M'⟩, q, hQ⟩;unfold regE at q;split at q
  ·rename_i recs A1 M1 hrun;obtain ⟨q1, q2, q3⟩ := q;simp only at q2 q3;subst q2;subst q3
   have hA' : qbb g' (⟨d1, none, av⟩ :: A) (a.put (some d1) v).tmps :=
    (qbb.keep k at_.env).put (dst := some d1) (tag := none) (fun d hd => by cases hd; exact ⟨hdl, free_of htags (by simp), fun τ hτ => by cases hτ⟩) hr
   refine run_text hty hΓ n rest hrun q1 hdb (fun e he τ hτ => ?_) (by rw [size_put]; exact at_.size) hM2 s' hA' fun a' g'' r1 r2 r3 rx r4 r5 r6 => ?_
   ·rcases List.mem_cons.1 he with rfl | he
    ·cases hτ
    ·exact htags e he τ hτ
   ·refine ⟨_, g'', hQ, rfl, at_.base, (rx.trans hx).trans at_.ax, (at_.keep.trans k).trans r5, r3, r4, keepE_rel r6 ?_ keep, r1, by rw [r2, defers_put]; exact at_.defers⟩;rw [without_app];refine without_rel fun t' tag av' he' => ?_;rw [without_ent] at he';split at he'
    ·cases he'
    ·rename_i hc;have hdst : dstL ops.toList = d1 :: dstL rest := by rw [ho, dstL, hd1]
     rw [hdst] at hc;simp only [List.contains_cons, Bool.or_eq_true, beq_iff_eq, not_or, Bool.not_eq_true] at hc;refine r6 t' tag av' ?_;rw [run_ent hrun t' (by simpa using hc.2), ent, if_neg (fun h => hc.1 h.symm)];exact he'
  ·exact q.elim
 refine wp_region_list ?_;rw [ho];unfold wpList;rw [wanted_iff htag];simp only [tagB, if_true];left;have hx : R g (.it u) (a.tmps.getD t undef) := at_.env t none _ he
 have hDoes : ∀ {v : Value} {w' : World}, (Instr.next (a.tmps.getD t undef) false o1.type).run P g.w = .ok v w' → Does P o1 a g.w (fun v' w'' => v' = v ∧ w'' = w') := by
  intro v w' hrun;obtain ⟨dst, op, type, pos, after, guard⟩ := o1;simp only at ho1 hrun;subst ho1;unfold Does;show After P _ ((do pure (Next.value (← Instr.next (a.tmps.getD t undef) false type))).run P g.w);rw [Sem.run_bind, hrun];exact ⟨rfl, rfl⟩
 rcases next_map (P := P) at_.sim (by rw [hgM]; exact hM) hk o1.type hx with ⟨q1, q2⟩ | ⟨k, v, x, w', q1, q2, q3, q4, q5⟩
 ·refine (hDoes q2).wp fun v' w'' hv => ?_;obtain ⟨rfl, rfl⟩ := hv;rw [hd1];refine tail g _ (.tup [.lit (.bool false)]) M at_.sim (Keep.refl g) rfl hgM (.tup _ _ rfl fun j hj => ?_) (h0 q1)
  match j, hj with
  | 0, _ => exact .lit _
 ·refine (hDoes q3).wp fun v' w'' hv => ?_;obtain ⟨rfl, rfl⟩ := hv;rw [hd1];refine tail _ _ (.tup [.lit (.bool true), .lit k, .lit x]) _ q4 q5 rfl (by show g.M.set i _ = _; rw [hgM]) (.tup _ _ rfl fun j hj => ?_) (h1 k v x q1 q2)
  match j, hj with
  | 0, _ => exact .lit _
  | 1, _ => exact .lit _
  | 2, _ => exact .lit _
theorem hasM_mem {V : Type} {k : Int} {v : V} : ∀ {m : List (Int × V)}, (k, v) ∈ m → hasM eqI k m = true
 | [], h => by cases h
 | e :: r, h => by
   rw [hasM];rcases List.mem_cons.1 h with rfl | h
   ·simp [eqI, qaf]
   ·rw [hasM_mem h]; cases eqI k e.1 <;> rfl
theorem AWp.regNextI (hty : TyOk P ty) (hΓ : qbc P Γ) {V : Type} {kk : IntKind} {vE : V → AV} {m : List (Int × V)} {id t u i d1 : Nat} {ops : Array Oper} {o1 : Oper} {rest : List Oper} (ho : ops.toList = o1 :: rest) (ho1 : o1.op = .next (.tmp t) false)
  (hg : o1.guard = none) (hd1 : o1.dst = some d1) {keep dead : List Nat} (hd : dstsOk ops n ops.toList [] = true) (hn : noTags σ.A = true) {vis : List Value} {cur : Option Value}
  (he : ent σ.A t = some (none, .it u)) (hM : σ.M[i]? = some (.mapr (qas (kI kk) vE m) vis cur u))
  (h0 : (∀ k v, (AV.lit k, v) ∈ qas (kI kk) vE m → k ∈ vis) → ∃ σ', regE keep dead ops.toList σ σ' (runR ty Γ ops rest (⟨d1, none, .tup [.lit (.bool false)]⟩ :: σ.A) σ.M) ∧ Q .normal σ')
  (h1 : ∀ (k : Int) v x, Value.int kk k ∉ vis → (k, v) ∈ m → hasM eqI k m = true →
   ∃ σ', regE keep dead ops.toList σ σ' (runR ty Γ ops rest (⟨d1, none, .tup [.lit (.bool true), .lit (.int kk k), .lit x]⟩ :: σ.A) (σ.M.set i (.mapr (qas (kI kk) vE m) (.int kk k :: vis) (some (.int kk k)) u))) ∧ Q .normal σ') :
  AWp P n B (.region id ops false) Q σ := by
 refine AWp.regNext hty hΓ ho ho1 hg hd1 hd hn he hM (fun p hp => ?_) h0 fun k v x hk hm => ?_
 ·obtain ⟨q, _, rfl⟩ := List.mem_map.1 hp;exact ⟨_, rfl⟩
 ·obtain ⟨q, hq, hqq⟩ := List.mem_map.1 hm;cases hqq;exact h1 q.1 q.2 x hk hq (hasM_mem hq)
theorem keys_nodup {g : G} (s : Sim g) {V : Type} {kk : IntKind} {vE : V → AV} {i u : Nat} {m : List (Int × V)} {vis : List Value} {cur : Option Value} (hM : g.M[i]? = some (.mapr (qas (kI kk) vE m) vis cur u)) : (m.map (·.1)).Nodup := by
 obtain ⟨_, _, o1, oi, _, _, ents, clock, seen, rfl, _, ⟨ents', clock', hee, hst, hl, hes⟩, _, _⟩ := s.mapr i _ vis cur u hM;cases hee;have hml : (qas (kI kk) vE m).length = m.length := by simp [qas]
 have e : ents.toList.map (·.key) = m.map fun e => Value.int kk e.1 := by
  refine List.ext_getElem (by simp only [List.length_map]; omega) fun j h1 h2 => ?_;simp only [List.length_map] at h1 h2;have := (hes j (by omega)).1;simp only [qas, List.getElem_map, kI] at this;have := this.lit_inv;rw [List.getD_eq_getElem?_getD, List.getElem?_eq_getElem h1] at this;simpa using this
 have hnd := hst.2.2;rw [e] at hnd;simp only [List.Nodup, List.pairwise_map] at hnd ⊢;exact hnd.imp fun h h' => h (by rw [h'])
theorem del_filter {V : Type} (k : Int) : ∀ {m : List (Int × V)}, (m.map (·.1)).Nodup → delM eqI k m = m.filter fun e => !(eqI k e.1)
 | [], _ => rfl
 | e :: r, h => by
   rw [List.map_cons, List.nodup_cons] at h;rw [delM];by_cases hk : eqI k e.1 = true
   ·rw [if_pos hk, List.filter_cons, if_neg (by simp [hk])];have hke : k = e.1 := by simpa [eqI] using hk
    refine (List.filter_eq_self.2 fun x hx => ?_).symm;have : k ≠ x.1 := fun q => h.1 (List.mem_map.2 ⟨x, hx, by rw [← hke, q]⟩);simp [eqI, this]
   ·rw [if_neg hk, List.filter_cons, if_pos (by simpa using hk), del_filter k h.2]
end Go.Ab
end
section
namespace Go.Ab
def WrB (T E : TypeId) (bs : List Int) (b rb : Nat) (o1 o2 : Option Obj) : Prop :=
  ∃ p v, o1 = some (.cells #[p, v] T (0, 0)) ∧ (p = .pointer none ∨ p = .pointer (some ⟨b, 0, none⟩)) ∧
    ((v = .slice none 0 0 ∧ bs = [] ∧ rb = b) ∨
     ∃ cap cur, v = .slice (some ⟨rb, 0, none⟩) bs.length cap ∧ rb ≠ b ∧ o2 = some (.cells cur E (0, 0)) ∧ bs.length ≤ cap ∧ cap ≤ maxLen ∧ cur.size = cap ∧ cur.toList.take bs.length = bs.map (Value.int .u8))
def wrO (T E : TypeId) (bs : List Int) : Opq := ⟨bs, WrB T E⟩
def wrX : Opq := ⟨[], fun _ _ _ _ _ => True⟩
theorem wr_fresh (T E : TypeId) (b : Nat) (o : Option Obj) : (wrO T E []) b b (some (.cells #[.pointer none, .slice none 0 0] T (0, 0))) o :=
 ⟨_, _, rfl, .inl rfl, .inl ⟨rfl, rfl, rfl⟩⟩
theorem WrB.at {T E : TypeId} {bs : List Int} {b rb : Nat} {w : World} (h : WrB T E bs b rb (w.heap[b]?) (w.heap[rb]?)) :
  ∃ p v, w.heap[b]? = some (.cells #[p, v] T (0, 0)) ∧ (p = .pointer none ∨ p = .pointer (some ⟨b, 0, none⟩)) ∧ w.ownsRow 0 E 1 v bs.length (bs.map (Value.int .u8)) ∧
    v.ownBlock ≠ some b ∧ ((v.ownBlock = none ∧ rb = b) ∨ v.ownBlock = some rb) := by
 obtain ⟨p, v, h1, h2, h3⟩ := h;refine ⟨p, v, h1, h2, ?_⟩;rcases h3 with ⟨rfl, rfl, rfl⟩ | ⟨cap, cur, rfl, hne, ho, hc, hm, hs, ht⟩
 ·exact ⟨⟨by simp, .inl ⟨rfl, rfl⟩⟩, by simp [Value.ownBlock], .inl ⟨rfl, rfl⟩⟩
 ·exact ⟨⟨by simp, .inr ⟨rb, cap, cur, rfl, Nat.zero_le _, ho, hc, hm, by simpa using hs, by simpa using ht⟩⟩, by simpa [Value.ownBlock] using hne, .inr rfl⟩
theorem WrB.of {T E : TypeId} {bs : List Int} {b : Nat} {p v : Value} {w : World} (h1 : w.heap[b]? = some (.cells #[p, v] T (0, 0))) (h2 : p = .pointer none ∨ p = .pointer (some ⟨b, 0, none⟩))
  (h3 : w.ownsRow 0 E 1 v bs.length (bs.map (Value.int .u8))) (h4 : v.ownBlock ≠ some b) : WrB T E bs b (v.ownBlock.getD b) (w.heap[b]?) (w.heap[v.ownBlock.getD b]?) := by
 refine ⟨p, v, h1, h2, ?_⟩;rcases h3.2 with ⟨rfl, hn⟩ | ⟨g, cap, cur, rfl, _, ho, hc, hm, hs, ht⟩
 ·exact .inl ⟨rfl, List.eq_nil_of_length_eq_zero hn, rfl⟩
 ·simp only [Value.ownBlock, ne_eq, Option.some.injEq, Option.getD_some] at h4 ⊢;exact .inr ⟨cap, cur, rfl, h4, ho, hc, hm, by simpa using hs, by simpa using ht⟩
structure WrKeep (b : Nat) (ob : Option Nat) (w w' : World) : Prop where
 size : w.heap.size ≤ w'.heap.size
 os : w'.os = w.os
 output : w'.output = w.output
 block : ∀ k, k < w.heap.size → k ≠ b → some k ≠ ob → w'.heap[k]? = w.heap[k]?
theorem WrKeep.refl (b : Nat) (ob : Option Nat) (w : World) : WrKeep b ob w w := ⟨Nat.le_refl _, rfl, rfl, fun _ _ _ _ => rfl⟩
theorem WrKeep.trans {b : Nat} {ob : Option Nat} {w w' w'' : World} (h : WrKeep b ob w w') (h' : WrKeep b ob w' w'') : WrKeep b ob w w'' :=
 ⟨Nat.le_trans h.size h'.size, h'.os.trans h.os, h'.output.trans h.output, fun k h1 h2 h3 => (h'.block k (Nat.lt_of_lt_of_le h1 h.size) h2 h3).trans (h.block k h1 h2 h3)⟩
theorem WrKeep.grown {b : Nat} {ob : Option Nat} {w w' : World} (h : w.grownBy w' ob) : WrKeep b ob w w' := ⟨h.size, h.os, h.output, fun k h1 _ h3 => h.block k h1 h3⟩
theorem heap_setCell_ne {w : World} {b off k : Nat} {v : Value} (h : k ≠ b) : (w.setCell ⟨b, off, none⟩ v).heap[k]? = w.heap[k]? := by
 simp only [World.setCell, Array.getElem?_modify];rw [if_neg (fun e => h e.symm)]
theorem WrKeep.setCell (b off : Nat) (ob : Option Nat) (w : World) (v : Value) : WrKeep b ob w (w.setCell ⟨b, off, none⟩ v) :=
 ⟨by simp [World.setCell], rfl, rfl, fun _ _ h2 _ => heap_setCell_ne h2⟩
theorem run_append_w {P : Program} (w : World) (t tx ty e : TypeId) (i : TypeInfo) (z : Value) (ht : P.underlying t = some (.slice e)) (hi : P.info? e = some i) (hz : i.zero = some z)
  (hsize : i.size = 1) (hby : i.bytes = 1) (hzs : z.cells.size = 1) (v : Value) (n : Nat) (xs : List Value) (hown : w.ownsRow 0 e 1 v n xs) (x : Value) (m : Nat) (news : List Value) (hs : Src P 1 tx x m news w)
  (hm : 0 < m) (hbytes : n + m ≤ 140737488355328) :
  ∃ v' w', (Builtin.append_ #[t, tx] ty #[v, x]).run P w = .ok v' w' ∧ w'.ownsRow 0 e 1 v' (n + m) (xs ++ news) ∧ w.grownBy w' v.ownBlock ∧ (v'.ownBlock = v.ownBlock ∨ v'.ownBlock = some w.heap.size) ∧ v'.ownBlock ≠ none := by
 have hl : news.length = m := by simpa using hs.newsLen
 have hx : xs.length = n := by simpa using hown.1
 have hlen : (xs ++ news).length = (n + m) * 1 := by rw [List.length_append, hl, hx, Nat.mul_one]
 have h63 : n + m ≤ maxLen := by simp only [maxLen]; omega
 have hs' : Src P i.size tx x m news w := by rw [hsize]; exact hs
 have grow : ∀ (base : Option Addr) (cap : Nat), cap < n + m → v = .slice base n cap → (Builtin.firstCells i.size n (.slice base n cap)).run P w.drew = .ok xs.toArray w.drew → ∀ row,
   ∃ v' w', (Builtin.append_ #[t, tx] ty #[v, x]).run P w = .ok v' w' ∧ w'.ownsRow 0 e 1 v' (n + m) (xs ++ news) ∧ w.grownBy w' row ∧ (v'.ownBlock = v.ownBlock ∨ v'.ownBlock = some w.heap.size) ∧ v'.ownBlock ≠ none := by
  intro base cap hcap hv hf row;subst hv;have hr := run_append_grow_src (P := P) w t tx ty e i z ht hi hz base n cap xs hf x m news hs' hcap (by omega) (growslice_fits (by omega) (by rw [hby]; omega));refine ⟨_, _, hr, ⟨hlen, .inr ⟨w.heap.size, _, _, rfl, Nat.zero_le _, heap_alloc_new w.drew _, grownCap_ge w (n + m) cap e, grownCap_le_maxLen w (n + m) cap e h63, ?_, ?_⟩⟩, ⟨rfl, rfl, rfl, by simp, fun k hk _ => heap_alloc_old w.drew _ hk⟩, .inr rfl, by simp [Value.ownBlock]⟩
  ·have hge := grownCap_ge w (n + m) cap e;simp only [Array.size_append, List.size_toArray, size_zeroCells, hzs, hlen];omega
  ·simp only [Array.toList_append];rw [← hlen];exact List.take_left
 rcases hown.2 with ⟨rfl, rfl⟩ | ⟨g, cap, cur, rfl, _, hg, hnc, hcm, hcs, htake⟩
 ·have : xs = [] := List.eq_nil_of_length_eq_zero hx;subst this;exact grow none 0 (by omega) rfl (run_firstCells_none w.drew i.size 0 0 0) _
 ·by_cases hroom : n + m ≤ cap
  ·have hcell : ∀ j, j < cur.size → w.cell? ⟨g, j, none⟩ = some (cur.getD j undef) := fun j hj => by simp [World.cell?, hg, hj]
   have hr := run_append_room_src (P := P) w t tx ty e i ht hi g 0 n cap x m news hs' hroom
    (fun j hj => by rw [hcell _ (by rw [hsize]; simp only [Nat.mul_one] at hcs ⊢; omega)]; rfl) (fun j _ => by simp [World.frozen?, hg])
   have hst := run_storeCells_at P g n e news 0 cur w hg (by simp only [Nat.mul_one] at hcs; simpa using (by omega : n + news.length ≤ cur.size)) hs.one;have hst2 := run_storeCells_cells (P := P) g n news 0 w (fun j hj => by rw [hcell _ (by simp only [Nat.mul_one] at hcs; omega)]; rfl) (fun j _ => by simp [World.frozen?, hg]) hs.one;simp only [Nat.add_zero] at hst hst2
   have hW : w.setCells g n news = w.setRow g (cur.toList.take n ++ news ++ cur.toList.drop (n + news.length)).toArray := by
    rw [hst] at hst2;injection hst2 with _ h
    exact h.symm
   rw [hsize] at hr;simp only [Nat.zero_add, Nat.mul_one] at hr hcs htake;rw [hW] at hr;refine ⟨_, _, hr, ⟨hlen, .inr ⟨g, cap, _, rfl, Nat.zero_le _, setRow_heap w g cur _ e _ hg, hroom, hcm, ?_, ?_⟩⟩, ⟨rfl, rfl, rfl, by simp, fun k _ hk => setRow_other w g k _ (fun e => hk (by simp [Value.ownBlock, e]))⟩, .inl rfl, by simp [Value.ownBlock]⟩
   ·simp only [List.size_toArray, List.length_append, List.length_take, List.length_drop, Array.length_toList];omega
   ·rw [htake, ← hlen];exact List.take_left
  ·have holds : ∀ j u, xs[j]? = some u → w.cell? ((⟨g, 0, none⟩ : Addr).add j) = some u := hown.cells (g := g) rfl;exact grow (some ⟨g, 0, none⟩) cap (by omega) rfl (by rw [hsize]; exact run_firstCells_some w.drew 1 n _ n cap xs (by simpa using hx) (by simpa using holds)) _
theorem qba {P : Program} {w : World} {ops : Array Oper} {rest : List Oper} {o : Oper} {a : Act} {Q : Exit → Act → World → Prop} (hgd : o.guard = none) (s x : Operand) (t tx : TypeId)
  (ho : o.op = .call { callee := .builtin .append, args := #[s, x], argTypes := #[t, tx] }) (e : TypeId) (i : TypeInfo) (z : Value) (ht : P.underlying t = some (.slice e)) (hi : P.info? e = some i) (hz : i.zero = some z)
  (hsize : i.size = 1) (hby : i.bytes = 1) (hzs : z.cells.size = 1) (v : Value) (n : Nat) (xs : List Value) (hsv : a.eval s = v) (hown : w.ownsRow 0 e 1 v n xs) (y : Value) (hx : a.eval x = y) (m : Nat) (news : List Value) (hs : Src P 1 tx y m news w)
  (hm : 0 < m) (hbytes : n + m ≤ 140737488355328)
  (h : ∀ v' w', w'.ownsRow 0 e 1 v' (n + m) (xs ++ news) → w.grownBy w' v.ownBlock → (v'.ownBlock = v.ownBlock ∨ v'.ownBlock = some w.heap.size) → v'.ownBlock ≠ none → wpList P ops Q rest (a.put o.dst v') w') : wpList P ops Q (o :: rest) a w :=
 wpList_plain hgd fun K hK => by
  obtain ⟨v', w', hr, h2, h3, h4, h5⟩ := run_append_w (P := P) w t tx o.type e i z ht hi hz hsize hby hzs v n xs hown y m news hs hm hbytes;unfold Oper.wp execOp;simp only [ho, resolve, invoke, builtin, Sem.run_bind, Sem.run_pure, Result.andThen_ok, List.map_toArray, List.map_cons, List.map_nil, hsv, hx, hr];exact hK _ _ (h v' w' h2 h3 h4 h5)
end Go.Ab
end

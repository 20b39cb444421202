import Derived.Test.YtoiieebljbhpbaaGreatDoorAb9
import Derived.Maps.OwnSet
section
namespace Go.Ab
attribute [simp] entry2Out entryKOut entryOut curR
variable {P : Program} {n B : Nat} {Q : Exit → St → Prop} {σ : St} {ty : TyTab} {Γ : Gam}
theorem AWp.regNext (hty : TyOk P ty) (hΓ : GamOk P Γ) {id t u i d1 : Nat} {ops : Array Oper} {o1 : Oper} {rest : List Oper} (ho : ops.toList = o1 :: rest) (ho1 : o1.op = .next (.tmp t) false) (hg : o1.guard = none)
  (hd1 : o1.dst = some d1) {keep dead : List Nat} (hd : dstsOk ops n ops.toList [] = true) (hn : noTags σ.A = true) {es : List (AV × AV)} {vis : List Value} {cur : Option Value}
  (he : ent σ.A t = some (none, .it u)) (hM : σ.M[i]? = some (.mapr es vis cur u)) (hk : ∀ p ∈ es, ∃ k, p.1 = .lit k)
  (h0 : (∀ k v, (AV.lit k, v) ∈ es → k ∈ vis) → ∃ σ', regE keep dead ops.toList σ σ' (runR ty Γ ops rest (⟨d1, none, .tup [.lit (.bool false)]⟩ :: σ.A) σ.M) ∧ Q .normal σ')
  (h1 : ∀ k v x, k ∉ vis → (AV.lit k, v) ∈ es → ∃ σ', regE keep dead ops.toList σ σ' (runR ty Γ ops rest (⟨d1, none, .tup [.lit (.bool true), .lit k, .lit x]⟩ :: σ.A) (σ.M.set i (.mapr es (k :: vis) (some k) u))) ∧ Q .normal σ') :
  AWp P n B (.region id ops false) Q σ := by
 obtain ⟨A, M⟩ := σ;intro g0 g a at_;have hgM : g.M = M := at_.mem
 have htags : tagsIn A [] := fun e he τ hτ => by
  have := List.all_eq_true.1 hn e he;simp [hτ] at this
 have hd' := hd;rw [ho] at hd';unfold dstsOk at hd';rw [hd1] at hd';simp only [Bool.and_eq_true] at hd';obtain ⟨hda, hdb⟩ := hd';have htag : tagOf ops o1 = some none := by unfold tagOf; rw [hg]
 rw [htag] at hdb
 have hdl : d1 < a.tmps.size := by
  rw [at_.size];simpa using hda
 have tail : ∀ (g' : G) (v : Value) (av : AV) (M2 : List AObj), Sim g' → Keep g g' → g'.X = g.X → g'.M = M2 → R g' av v →
   (∃ σ', regE keep dead ops.toList ⟨A, M⟩ σ' (runR ty Γ ops rest (⟨d1, none, av⟩ :: A) M2) ∧ Q .normal σ') →
   wpList P ops (fun e a' w' => ∃ σ' g', Q e σ' ∧ g'.w = w' ∧ At n B g0 g' a' σ') rest (a.put (some d1) v) g'.w := by
  rintro g' v av M2 s' k hx hM2 hr ⟨⟨A', M'⟩, q, hQ⟩;unfold regE at q;split at q
  ·rename_i recs A1 M1 hrun;obtain ⟨q1, q2, q3⟩ := q;simp only at q2 q3;subst q2;subst q3
   have hA' : EnvRel g' (⟨d1, none, av⟩ :: A) (a.put (some d1) v).tmps :=
    (EnvRel.keep k at_.env).put (dst := some d1) (tag := none) (fun d hd => by cases hd; exact ⟨hdl, free_of htags (by simp), fun τ hτ => by cases hτ⟩) hr
   refine run_text hty hΓ n rest hrun q1 hdb (fun e he τ hτ => ?_) (by rw [size_put]; exact at_.size) hM2 s' hA' fun a' g'' r1 r2 r3 rx r4 r5 r6 => ?_
   ·rcases List.mem_cons.1 he with rfl | he
    ·cases hτ
    ·exact htags e he τ hτ
   ·refine ⟨_, g'', hQ, rfl, at_.base, (rx.trans hx).trans at_.ax, (at_.keep.trans k).trans r5, r3, r4, keepE_rel r6 ?_ keep, r1, by rw [r2, defers_put]; exact at_.defers⟩;rw [without_app];refine without_rel fun t' tag av' he' => ?_;rw [without_ent] at he';split at he'
    ·cases he'
    ·rename_i hc;have hdst : dstL ops.toList = d1 :: dstL rest := by rw [ho, dstL, hd1]
     rw [hdst] at hc;simp only [List.contains_cons, Bool.or_eq_true, beq_iff_eq, not_or, Bool.not_eq_true] at hc;refine r6 t' tag av' ?_;rw [run_ent hrun t' (by simpa using hc.2), ent, if_neg (fun h => hc.1 h.symm)];exact he'
  ·exact q.elim
 refine wp_region_list ?_;rw [ho];unfold wpList;rw [wanted_iff htag];simp only [tagB, if_true];left;have hx : R g (.it u) (a.tmps.getD t undef) := at_.env t none _ he
 have hDoes : ∀ {v : Value} {w' : World}, (Instr.next (a.tmps.getD t undef) false o1.type).run P g.w = .ok v w' → Does P o1 a g.w (fun v' w'' => v' = v ∧ w'' = w') := by
  intro v w' hrun;obtain ⟨dst, op, type, pos, after, guard⟩ := o1;simp only at ho1 hrun;subst ho1;unfold Does;show After P _ ((do pure (Next.value (← Instr.next (a.tmps.getD t undef) false type))).run P g.w);rw [Sem.run_bind, hrun];exact ⟨rfl, rfl⟩
 rcases next_map (P := P) at_.sim (by rw [hgM]; exact hM) hk o1.type hx with ⟨q1, q2⟩ | ⟨k, v, x, w', q1, q2, q3, q4, q5⟩
 ·refine (hDoes q2).wp fun v' w'' hv => ?_;obtain ⟨rfl, rfl⟩ := hv;rw [hd1];refine tail g _ (.tup [.lit (.bool false)]) M at_.sim (Keep.refl g) rfl hgM (.tup _ _ rfl fun j hj => ?_) (h0 q1)
  match j, hj with
  | 0, _ => exact .lit _
 ·refine (hDoes q3).wp fun v' w'' hv => ?_;obtain ⟨rfl, rfl⟩ := hv;rw [hd1];refine tail _ _ (.tup [.lit (.bool true), .lit k, .lit x]) _ q4 q5 rfl (by show g.M.set i _ = _; rw [hgM]) (.tup _ _ rfl fun j hj => ?_) (h1 k v x q1 q2)
  match j, hj with
  | 0, _ => exact .lit _
  | 1, _ => exact .lit _
  | 2, _ => exact .lit _
theorem hasM_mem {V : Type} {k : Int} {v : V} : ∀ {m : List (Int × V)}, (k, v) ∈ m → hasM eqI k m = true
 | [], h => by cases h
 | e :: r, h => by
   rw [hasM];rcases List.mem_cons.1 h with rfl | h
   ·simp [eqI, pickB]
   ·rw [hasM_mem h]; cases eqI k e.1 <;> rfl
theorem AWp.regNextI (hty : TyOk P ty) (hΓ : GamOk P Γ) {V : Type} {kk : IntKind} {vE : V → AV} {m : List (Int × V)} {id t u i d1 : Nat} {ops : Array Oper} {o1 : Oper} {rest : List Oper} (ho : ops.toList = o1 :: rest) (ho1 : o1.op = .next (.tmp t) false)
  (hg : o1.guard = none) (hd1 : o1.dst = some d1) {keep dead : List Nat} (hd : dstsOk ops n ops.toList [] = true) (hn : noTags σ.A = true) {vis : List Value} {cur : Option Value}
  (he : ent σ.A t = some (none, .it u)) (hM : σ.M[i]? = some (.mapr (encM (kI kk) vE m) vis cur u))
  (h0 : (∀ k v, (AV.lit k, v) ∈ encM (kI kk) vE m → k ∈ vis) → ∃ σ', regE keep dead ops.toList σ σ' (runR ty Γ ops rest (⟨d1, none, .tup [.lit (.bool false)]⟩ :: σ.A) σ.M) ∧ Q .normal σ')
  (h1 : ∀ (k : Int) v x, Value.int kk k ∉ vis → (k, v) ∈ m → hasM eqI k m = true →
   ∃ σ', regE keep dead ops.toList σ σ' (runR ty Γ ops rest (⟨d1, none, .tup [.lit (.bool true), .lit (.int kk k), .lit x]⟩ :: σ.A) (σ.M.set i (.mapr (encM (kI kk) vE m) (.int kk k :: vis) (some (.int kk k)) u))) ∧ Q .normal σ') :
  AWp P n B (.region id ops false) Q σ := by
 refine AWp.regNext hty hΓ ho ho1 hg hd1 hd hn he hM (fun p hp => ?_) h0 fun k v x hk hm => ?_
 ·obtain ⟨q, _, rfl⟩ := List.mem_map.1 hp;exact ⟨_, rfl⟩
 ·obtain ⟨q, hq, hqq⟩ := List.mem_map.1 hm;cases hqq;exact h1 q.1 q.2 x hk hq (hasM_mem hq)
theorem keys_nodup {g : G} (s : Sim g) {V : Type} {kk : IntKind} {vE : V → AV} {i u : Nat} {m : List (Int × V)} {vis : List Value} {cur : Option Value} (hM : g.M[i]? = some (.mapr (encM (kI kk) vE m) vis cur u)) : (m.map (·.1)).Nodup := by
 obtain ⟨_, _, o1, oi, _, _, ents, clock, seen, rfl, _, ⟨ents', clock', hee, hst, hl, hes⟩, _, _⟩ := s.mapr i _ vis cur u hM;cases hee;have hml : (encM (kI kk) vE m).length = m.length := by simp [encM]
 have e : ents.toList.map (·.key) = m.map fun e => Value.int kk e.1 := by
  refine List.ext_getElem (by simp only [List.length_map]; omega) fun j h1 h2 => ?_;simp only [List.length_map] at h1 h2;have := (hes j (by omega)).1;simp only [encM, List.getElem_map, kI] at this;have := this.lit_inv;rw [List.getD_eq_getElem?_getD, List.getElem?_eq_getElem h1] at this;simpa using this
 have hnd := hst.2.2;rw [e] at hnd;simp only [List.Nodup, List.pairwise_map] at hnd ⊢;exact hnd.imp fun h h' => h (by rw [h'])
theorem del_filter {V : Type} (k : Int) : ∀ {m : List (Int × V)}, (m.map (·.1)).Nodup → delM eqI k m = m.filter fun e => !(eqI k e.1)
 | [], _ => rfl
 | e :: r, h => by
   rw [List.map_cons, List.nodup_cons] at h;rw [delM];by_cases hk : eqI k e.1 = true
   ·rw [if_pos hk, List.filter_cons, if_neg (by simp [hk])];have hke : k = e.1 := by simpa [eqI] using hk
    refine (List.filter_eq_self.2 fun x hx => ?_).symm;have : k ≠ x.1 := fun q => h.1 (List.mem_map.2 ⟨x, hx, by rw [← hke, q]⟩);simp [eqI, this]
   ·rw [if_neg hk, List.filter_cons, if_pos (by simpa using hk), del_filter k h.2]
end Go.Ab
end
section
namespace Go.Ab
theorem keep_below {g : G} {w' : World} (h : RowKit.Below g.w.heap.size g.w w') : Keep g { g with w := w' } where
 len := Nat.le_refl _
 ptr _ _ := rfl
 rooms _ _ e h := ⟨e, h, Nat.le_refl _, fun _ => rfl⟩
 size := h.size
 cells a x hx _ := by rw [← hx]; simp only [World.cell?]; rw [h.block _ (cell_lt hx)]
 regs _ _ h := h
 blocks b hb _ := h.block b hb
 io := ⟨h.os, h.output⟩
 xs _ h := h
 xcell a ha _ := by simp only [World.cell?, World.frozen?]; rw [h.block _ ha]; exact ⟨rfl, rfl⟩
 xblk b hb _ := h.block b hb
theorem sim_below {g : G} {w' : World} (h : RowKit.Below g.w.heap.size g.w w') (s : Sim g) : Sim { g with w := w' } where
 fct := s.fct.keep (keep_below h)
 blk i cells hi := by
  obtain ⟨xs, T, h1, h2, h3, h4⟩ := s.blk i cells hi;exact ⟨xs, T, (h.block _ (blk_lt s hi)).trans h1, h2, fun j hj => (h3 j hj).keep (keep_below h), h4⟩
 iter i t pos hi := (h.block _ (iter_lt s hi)).trans (s.iter i t pos hi)
 room t e ht k hk := by
  obtain ⟨x, h1, h2⟩ := s.room t e ht k hk;have hb := cell_lt h1;refine ⟨x, ?_, ?_⟩
  ·simp only [World.cell?] at h1 ⊢; rw [h.block _ hb]; exact h1
  ·simp only [World.frozen?] at h2 ⊢; rw [h.block _ hb]; exact h2
 disj := s.disj
 inb a ha := Nat.lt_of_lt_of_le (s.inb a ha) h.size
 xdis := s.xdis
 mapo i es hi := by
  obtain ⟨o', h1, h2⟩ := s.mapo i es hi;exact ⟨o', (h.block _ (mapo_lt s hi)).trans h1, h2.keep (keep_below h)⟩
 opq i φ hi := by
  have e1 := h.block _ (Ln s hi (.inl rfl));have e2 := h.block _ (Ln s hi (.inr rfl));show φ _ _ (w'.heap[g.β i]?) (w'.heap[(g.ρ i).b]?);rw [e1, e2]; exact s.opq i φ hi
 own i P cur hi := s.ownKeep (keep_below h).toKeep0 (fun a ha => Nat.lt_of_lt_of_le (s.inb a ha) h.size) hi hi rfl rfl fun b hb => h.block _ (Ln s hi hb)
 arr i z els hi := (s.arr i z els hi).keep0 (keep_below h).toKeep0 fun hne => h.block _ (Ln s hi ⟨hne, rfl⟩)
 mapr i es vis cur t hi := by
  obtain ⟨t1, t2, o', oi, h1, h2, h3⟩ := s.mapr i es vis cur t hi;exact ⟨t1, t2, o', oi, (h.block _ (Ln s hi (.inl rfl))).trans h1, (h.block _ (Ln s hi (.inr rfl))).trans h2, h3.keep (keep_below h)⟩
end Go.Ab
end
section
namespace Go.Ab
variable {P : Program} {ty : TyTab} {Γ : Gam} {n B : Nat} {Q : Exit → St → Prop} {σ : St}
@[simp] theorem getV_SI (k2 : IntKind) (x : ByteArray) (d : Int) (m : List (ByteArray × Int)) : getV (.string x) (.lit (.int k2 d)) (encM kS (kI k2) m) = .lit (.int k2 (getM eqS x d m)) := getV_S (vE := kI k2) (d := d) rfl x m
@[simp] theorem setV_SI (k2 : IntKind) (x : ByteArray) (v : Int) (m : List (ByteArray × Int)) : setV (.string x) (.lit (.int k2 v)) (encM kS (kI k2) m) = encM kS (kI k2) (setM eqS x v m) := setV_S (vE := kI k2) (v := v) rfl x m
theorem getV_at {V : Type} {kk : IntKind} {vE : V → AV} {k : Int} {v : V} {z : AV} : ∀ {m : List (Int × V)}, (m.map (·.1)).Nodup → (k, v) ∈ m → getV (.int kk k) z (encM (kI kk) vE m) = vE v := by
 intro m hn hm
 have hz : getV (.int kk k) z (encM (kI kk) vE m) = getV (.int kk k) (vE v) (encM (kI kk) vE m) := by
  clear hn
  induction m with
  | nil => cases hm
  | cons e r ih =>
    simp only [encM, List.map_cons, kI, getV];split
    ·rfl
    ·rename_i hne;refine ih ?_;rcases List.mem_cons.1 hm with rfl | h
     ·have he : eqI k k = true := by simp [eqI]
      simp [sameV, he] at hne
     ·exact h
 rw [hz, getV_I (d := v) rfl];congr 1;clear hz
 induction m with
 | nil => cases hm
 | cons e r ih =>
   rw [getM];rw [List.map_cons, List.nodup_cons] at hn;rcases List.mem_cons.1 hm with rfl | h
   ·rw [if_pos (by simp [eqI])]
   ·have : k ≠ e.1 := fun q => hn.1 (List.mem_map.2 ⟨(k, v), h, q⟩);rw [if_neg (by simp [eqI, this])];exact ih hn.2 h
theorem nodup_len {α : Type} : ∀ {l m : List α}, l.Nodup → (∀ x ∈ l, x ∈ m) → l.length ≤ m.length
 | [], _, _, _ => Nat.zero_le _
 | a :: l, m, h, hs => by
   rw [List.nodup_cons] at h;obtain ⟨m1, m2, rfl⟩ := List.append_of_mem (hs a (List.mem_cons_self))
   have := nodup_len (l := l) (m := m1 ++ m2) h.2 fun x hx => by
    have hx' := hs x (List.mem_cons_of_mem _ hx);rcases List.mem_append.1 hx' with q | q
    ·exact List.mem_append.2 (.inl q)
    ·rcases List.mem_cons.1 q with rfl | q
     ·exact absurd hx h.1
     ·exact List.mem_append.2 (.inr q)
   simp only [List.length_append, List.length_cons] at this ⊢;omega
theorem AWp.rangeM {c : Code} {V X : Type} {kk : IntKind} {vE : V → AV} {id i u mm : Nat} (m : List (Int × V)) (I : List (Int × V) → X → Prop) (E : X → List Value → Option Value → St) (EX : X → St)
  (hE : ∀ x vis cur, (E x vis cur).M[i]? = some (.mapr (encM (kI kk) vE m) vis cur u)) (x0 : X) (hc : Conv B mm σ (E x0 [] none)) (h0 : I [] x0)
  (round : ∀ x vis cur done, (m.map (·.1)).Nodup → I done x → vis = done.map (fun e => Value.int kk e.1) → AWp P n B c (fun e σ' => (e = .exit id ∧ (∀ k v, (AV.lit k, v) ∈ encM (kI kk) vE m → k ∈ vis) ∧ ∃ mx, Conv B mx σ' (EX x)) ∨
   (e = .normal ∧ ∃ (k : Int) (v : V), Value.int kk k ∉ vis ∧ (k, v) ∈ m ∧ ∃ x', I ((k, v) :: done) x' ∧ ∃ mx, Conv B mx σ' (E x' (.int kk k :: vis) (some (.int kk k))))) (E x vis cur))
  (hq : ∀ x σ' mx done, done.Perm m → I done x → Conv B mx σ' (EX x) → Q .normal σ') : AWp P n B (.block id (.loop c)) Q σ := by
 intro g0 g a at_;obtain ⟨g1, _, at1⟩ := hc.at at_;have hN := keys_nodup at1.sim (by rw [at1.mem]; exact hE x0 [] none)
 refine (AWp.block (AWp.loop' (fun q σ => ∃ x vis cur done, σ = E x vis cur ∧ I done x ∧ vis = done.map (fun e => Value.int kk e.1) ∧ (∀ e ∈ done, e ∈ m) ∧ done.Nodup ∧ done.length + q = m.length + 1) (m.length + 1) mm _
  (hc := hc) ⟨x0, [], none, [], rfl, h0, rfl, fun _ h => (by cases h), .nil, by simp⟩ ?_) : AWp P n B (.block id (.loop c)) Q σ) g0 g a at_
 rintro q σ ⟨x, vis, cur, done, rfl, hI, hv, hd, hnd, hl⟩;refine AWp.mono (round x vis cur done hN hI hv) fun e σ' h => ?_;have hsub : done.length ≤ m.length := nodup_len hnd hd;rcases h with ⟨rfl, h1, mx, h2⟩ | ⟨rfl, k, v, h1, h2, x', h3, mx, h4⟩
 ·simp only [thenS, blockS, if_true];refine hq x σ' mx done ?_ hI h2
  have hmn : m.Nodup := by
   unfold List.Nodup at hN ⊢;rw [List.pairwise_map] at hN;exact hN.imp fun h q => h (by rw [q])
  refine (List.perm_ext_iff_of_nodup hnd hmn).2 fun e => ⟨hd e, fun he => ?_⟩;have := h1 (.int kk e.1) (vE e.2) (List.mem_map.2 ⟨e, he, rfl⟩);rw [hv] at this;obtain ⟨e', he', hk⟩ := List.mem_map.1 this;have hk' : e'.1 = e.1 := by injection hk
  have : e' = e := by
   have hN' := hN;unfold List.Nodup at hN';rw [List.pairwise_map] at hN';refine Classical.byContradiction fun hne => ?_;obtain ⟨i1, hi1, e1⟩ := List.mem_iff_getElem.1 (hd e' he');obtain ⟨i2, hi2, e2⟩ := List.mem_iff_getElem.1 he;rcases Nat.lt_trichotomy i1 i2 with h | h | h
   ·have := List.pairwise_iff_getElem.1 hN' i1 i2 hi1 hi2 h;rw [e1, e2] at this; exact this hk'
   ·subst h; exact hne (e1.symm.trans e2)
   ·have := List.pairwise_iff_getElem.1 hN' i2 i1 hi2 hi1 h;rw [e1, e2] at this; exact this hk'.symm
  rw [← this]; exact he'
 ·simp only [thenS];have hnew : (k, v) ∉ done := fun h => h1 (by rw [hv]; exact List.mem_map.2 ⟨_, h, rfl⟩)
  have hd' : ∀ e ∈ (k, v) :: done, e ∈ m := fun e he => by
   rcases List.mem_cons.1 he with rfl | he
   ·exact h2
   ·exact hd e he
  have hnd' : ((k, v) :: done).Nodup := List.nodup_cons.2 ⟨hnew, hnd⟩;have hsub' : ((k, v) :: done).length ≤ m.length := nodup_len hnd' hd';simp only [List.length_cons] at hsub';refine ⟨q - 1, mx, _, by omega, h4, x', _, _, (k, v) :: done, rfl, h3, by rw [hv]; rfl, hd', hnd', by simp only [List.length_cons]; omega⟩
end Go.Ab
end
section
namespace Go.Ab
@[simp] theorem decL_d {α : Type} (d : List AV → α) (els : List (List AV)) (tok : Tok) : decL d [.sl els tok] = els.map d := rfl
theorem Weak.trans {a b : AV} (h : Weak a b) : ∀ {c : AV}, Weak b c → Weak a c := by
 induction h with
 | refl a => intro c h; exact h
 | tok els tok =>
   intro c h;cases h with
   | refl => exact .tok _ _
   | tok => exact .tok _ _
 | agg l l' hl h ih =>
   intro c h';cases h' with
   | refl => exact .agg _ _ hl h
   | agg _ l'' hl' h'' => exact .agg _ _ (hl.trans hl') fun j h1 h2 => ih j h1 (by omega) (h'' j (by omega) h2)
 | tup l l' hl h ih =>
   intro c h';cases h' with
   | refl => exact .tup _ _ hl h
   | tup _ l'' hl' h'' => exact .tup _ _ (hl.trans hl') fun j h1 h2 => ih j h1 (by omega) (h'' j (by omega) h2)
theorem WObj.trans {a b c : AObj} (h : WObj a b) (h' : WObj b c) : WObj a c := by
 cases h with
 | refl => exact h'
 | dead =>
   cases h' with
   | refl => exact .dead _
   | dead => exact .dead _
 | mapr es vis cur t =>
   cases h' with
   | refl => exact .mapr _ _ _ _
   | dead => exact .dead _
 | blk l l' hl h =>
   cases h' with
   | refl => exact .blk _ _ hl h
   | dead => exact .dead _
   | blk _ l'' hl' h'' => exact .blk _ _ (hl.trans hl') fun j h1 h2 => (h j h1 (by omega)).trans (h'' j (by omega) h2)
theorem WMem.trans {a b : List AObj} (h : WMem a b) : ∀ {c : List AObj}, WMem b c → WMem a c := by
 induction h with
 | nil => intro c h; exact h
 | cons h _ ih =>
   intro c h';cases h' with
   | cons q r => exact .cons (h.trans q) (ih r)
theorem WMem.take {a b : List AObj} (h : WMem a b) : ∀ n : Nat, WMem (a.take n) (b.take n) := by
 induction h with
 | nil => intro n; simp only [List.take_nil]; exact .nil
 | cons h _ ih =>
   intro n;cases n with
   | zero => exact .nil
   | succ n => exact .cons h (ih n)
theorem subE_mem {A : Env} : ∀ {A' : Env}, subE A A' → ∀ e ∈ A', e.tag = none ∧ ∃ av, ent A e.t = some (none, av) ∧ Weak av e.av
 | ⟨t, tag, av⟩ :: r, h, e, he => by
   obtain ⟨h1, h2⟩ := h;rcases List.mem_cons.1 he with rfl | he
   ·split at h1
    ·rename_i av' htag hent;exact ⟨htag, av', hent, h1⟩
    ·exact h1.elim
   ·exact subE_mem h2 e he
theorem subE_of {A : Env} : ∀ {A' : Env}, (∀ e ∈ A', e.tag = none ∧ ∃ av, ent A e.t = some (none, av) ∧ Weak av e.av) → subE A A'
 | [], _ => trivial
 | ⟨t, tag, av⟩ :: r, h => by
   obtain ⟨h1, av', h2, h3⟩ := h _ (.head _);simp only at h1 h2 h3;refine ⟨?_, subE_of fun e he => h e (.tail _ he)⟩;simp only [h1, h2];exact h3
theorem Conv.trans {B m m' : Nat} {σ σ' σ'' : St} (h : Conv B m σ σ') (h' : Conv B m' σ' σ'') : Conv B m' σ σ'' := by
 obtain ⟨a1, a2, a3, a4, a5, a6⟩ := h;obtain ⟨b1, b2, b3, b4, b5, b6⟩ := h';have hl := a5.length;rw [List.length_take] at hl;have hm : m' ≤ m := by omega
 refine ⟨b1, by omega, subE_of fun e he => ?_, b4, ?_, b6⟩
 ·obtain ⟨e1, av, e2, e3⟩ := subE_mem b3 e he;obtain ⟨_, av', e5, e6⟩ := subE_mem a3 _ (ent_mem e2);exact ⟨e1, av', e5, e6.trans e3⟩
 ·have := a5.take m';rw [List.take_take, Nat.min_eq_left hm] at this;exact this.trans b5
end Go.Ab
end

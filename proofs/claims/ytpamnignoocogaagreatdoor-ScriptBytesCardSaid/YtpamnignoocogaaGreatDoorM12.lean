/- Ranging over a map whose body strikes entries: a step of the range, in code; the whole loop. No condition: over any program. -/
import Derived.Test.YtpamnignoocogaaGreatDoorAb9
import Derived.Deep.AppendSrc
import Derived.Laws.AppendOwn
import Derived.Lib.Builder
section
namespace Go.Ab
attribute [simp] entry2Out entryKOut entryOut curR
variable {P : Program} {n B : Nat} {Q : Exit → St → Prop} {σ : St} {ty : TyTab} {Γ : Gam}

/-- A region that begins with a step of a range over a map: nothing is left, or some key that has not been handed out. -/
theorem AWp.regNext (hty : TyOk P ty) (hΓ : GamOk P Γ) {id t u i d1 : Nat} {ops : Array Oper} {o1 : Oper} {rest : List Oper} (ho : ops.toList = o1 :: rest) (ho1 : o1.op = .next (.tmp t) false) (hg : o1.guard = none)
    (hd1 : o1.dst = some d1) {keep dead : List Nat} (hd : dstsOk ops n ops.toList [] = true) (hn : noTags σ.A = true) {es : List (AV × AV)} {vis : List Value} {cur : Option Value}
    (he : ent σ.A t = some (none, .it u)) (hM : σ.M[i]? = some (.mapr es vis cur u)) (hk : ∀ p ∈ es, ∃ k, p.1 = .lit k)
    (h0 : (∀ k v, (AV.lit k, v) ∈ es → k ∈ vis) → ∃ σ', regE keep dead ops.toList σ σ' (runR ty Γ ops rest (⟨d1, none, .tup [.lit (.bool false)]⟩ :: σ.A) σ.M) ∧ Q .normal σ')
    (h1 : ∀ k v x, k ∉ vis → (AV.lit k, v) ∈ es → ∃ σ', regE keep dead ops.toList σ σ' (runR ty Γ ops rest (⟨d1, none, .tup [.lit (.bool true), .lit k, .lit x]⟩ :: σ.A) (σ.M.set i (.mapr es (k :: vis) (some k) u))) ∧ Q .normal σ') :
    AWp P n B (.region id ops false) Q σ := by
  obtain ⟨A, M⟩ := σ
  intro g0 g a at_
  have hgM : g.M = M := at_.mem
  have htags : tagsIn A [] := fun e he τ hτ => by
    have := List.all_eq_true.1 hn e he
    simp [hτ] at this
  have hd' := hd
  rw [ho] at hd'
  unfold dstsOk at hd'
  rw [hd1] at hd'
  simp only [Bool.and_eq_true] at hd'
  obtain ⟨hda, hdb⟩ := hd'
  have htag : tagOf ops o1 = some none := by unfold tagOf; rw [hg]
  rw [htag] at hdb
  have hdl : d1 < a.tmps.size := by
    rw [at_.size]
    simpa using hda
  -- the rest, behind whatever the step came to
  have tail : ∀ (g' : G) (v : Value) (av : AV) (M2 : List AObj), Sim g' → Keep g g' → g'.X = g.X → g'.M = M2 → R g' av v →
      (∃ σ', regE keep dead ops.toList ⟨A, M⟩ σ' (runR ty Γ ops rest (⟨d1, none, av⟩ :: A) M2) ∧ Q .normal σ') →
      wpList P ops (fun e a' w' => ∃ σ' g', Q e σ' ∧ g'.w = w' ∧ At n B g0 g' a' σ') rest (a.put (some d1) v) g'.w := by
    rintro g' v av M2 s' k hx hM2 hr ⟨⟨A', M'⟩, q, hQ⟩
    unfold regE at q
    split at q
    · rename_i recs A1 M1 hrun
      obtain ⟨q1, q2, q3⟩ := q
      simp only at q2 q3
      subst q2
      subst q3
      have hA' : EnvRel g' (⟨d1, none, av⟩ :: A) (a.put (some d1) v).tmps :=
        (EnvRel.keep k at_.env).put (dst := some d1) (tag := none) (fun d hd => by cases hd; exact ⟨hdl, free_of htags (by simp), fun τ hτ => by cases hτ⟩) hr
      refine run_text hty hΓ n rest hrun q1 hdb (fun e he τ hτ => ?_) (by rw [size_put]; exact at_.size) hM2 s' hA' fun a' g'' r1 r2 r3 rx r4 r5 r6 => ?_
      · rcases List.mem_cons.1 he with rfl | he
        · cases hτ
        · exact htags e he τ hτ
      · refine ⟨_, g'', hQ, rfl, at_.base, (rx.trans hx).trans at_.ax, (at_.keep.trans k).trans r5, r3, r4, keepE_rel r6 ?_ keep, r1, by rw [r2, defers_put]; exact at_.defers⟩
        rw [without_app]
        refine without_rel fun t' tag av' he' => ?_
        rw [without_ent] at he'
        split at he'
        · cases he'
        · rename_i hc
          have hdst : dstL ops.toList = d1 :: dstL rest := by rw [ho, dstL, hd1]
          rw [hdst] at hc
          simp only [List.contains_cons, Bool.or_eq_true, beq_iff_eq, not_or, Bool.not_eq_true] at hc
          refine r6 t' tag av' ?_
          rw [run_ent hrun t' (by simpa using hc.2), ent, if_neg (fun h => hc.1 h.symm)]
          exact he'
    · exact q.elim
  refine wp_region_list ?_
  rw [ho]
  unfold wpList
  rw [wanted_iff htag]
  simp only [tagB, if_true]
  left
  have hx : R g (.it u) (a.tmps.getD t undef) := at_.env t none _ he
  have hDoes : ∀ {v : Value} {w' : World}, (Instr.next (a.tmps.getD t undef) false o1.type).run P g.w = .ok v w' → Does P o1 a g.w (fun v' w'' => v' = v ∧ w'' = w') := by
    intro v w' hrun
    obtain ⟨dst, op, type, pos, after, guard⟩ := o1
    simp only at ho1 hrun
    subst ho1
    unfold Does
    show After P _ ((do pure (Next.value (← Instr.next (a.tmps.getD t undef) false type))).run P g.w)
    rw [Sem.run_bind, hrun]
    exact ⟨rfl, rfl⟩
  rcases next_map (P := P) at_.sim (by rw [hgM]; exact hM) hk o1.type hx with ⟨q1, q2⟩ | ⟨k, v, x, w', q1, q2, q3, q4, q5⟩
  · refine (hDoes q2).wp fun v' w'' hv => ?_
    obtain ⟨rfl, rfl⟩ := hv
    rw [hd1]
    refine tail g _ (.tup [.lit (.bool false)]) M at_.sim (Keep.refl g) rfl hgM (.tup _ _ rfl fun j hj => ?_) (h0 q1)
    match j, hj with
    | 0, _ => exact .lit _
  · refine (hDoes q3).wp fun v' w'' hv => ?_
    obtain ⟨rfl, rfl⟩ := hv
    rw [hd1]
    refine tail _ _ (.tup [.lit (.bool true), .lit k, .lit x]) _ q4 q5 rfl (by show g.M.set i _ = _; rw [hgM]) (.tup _ _ rfl fun j hj => ?_) (h1 k v x q1 q2)
    match j, hj with
    | 0, _ => exact .lit _
    | 1, _ => exact .lit _
    | 2, _ => exact .lit _

theorem hasM_mem {V : Type} {k : Int} {v : V} : ∀ {m : List (Int × V)}, (k, v) ∈ m → hasM eqI k m = true
  | [], h => by cases h
  | e :: r, h => by
    rw [hasM]
    rcases List.mem_cons.1 h with rfl | h
    · simp [eqI, pickB]
    · rw [hasM_mem h]; cases eqI k e.1 <;> rfl

theorem AWp.regNextI (hty : TyOk P ty) (hΓ : GamOk P Γ) {V : Type} {kk : IntKind} {vE : V → AV} {m : List (Int × V)} {id t u i d1 : Nat} {ops : Array Oper} {o1 : Oper} {rest : List Oper} (ho : ops.toList = o1 :: rest) (ho1 : o1.op = .next (.tmp t) false)
    (hg : o1.guard = none) (hd1 : o1.dst = some d1) {keep dead : List Nat} (hd : dstsOk ops n ops.toList [] = true) (hn : noTags σ.A = true) {vis : List Value} {cur : Option Value}
    (he : ent σ.A t = some (none, .it u)) (hM : σ.M[i]? = some (.mapr (encM (kI kk) vE m) vis cur u))
    (h0 : (∀ k v, (AV.lit k, v) ∈ encM (kI kk) vE m → k ∈ vis) → ∃ σ', regE keep dead ops.toList σ σ' (runR ty Γ ops rest (⟨d1, none, .tup [.lit (.bool false)]⟩ :: σ.A) σ.M) ∧ Q .normal σ')
    (h1 : ∀ (k : Int) v x, Value.int kk k ∉ vis → (k, v) ∈ m → hasM eqI k m = true →
      ∃ σ', regE keep dead ops.toList σ σ' (runR ty Γ ops rest (⟨d1, none, .tup [.lit (.bool true), .lit (.int kk k), .lit x]⟩ :: σ.A) (σ.M.set i (.mapr (encM (kI kk) vE m) (.int kk k :: vis) (some (.int kk k)) u))) ∧ Q .normal σ') :
    AWp P n B (.region id ops false) Q σ := by
  refine AWp.regNext hty hΓ ho ho1 hg hd1 hd hn he hM (fun p hp => ?_) h0 fun k v x hk hm => ?_
  · obtain ⟨q, _, rfl⟩ := List.mem_map.1 hp
    exact ⟨_, rfl⟩
  · obtain ⟨q, hq, hqq⟩ := List.mem_map.1 hm
    cases hqq
    exact h1 q.1 q.2 x hk hq (hasM_mem hq)

/-- The entries of whose keys p holds. -/
def keepM {V : Type} (p : Int → Bool) (m : List (Int × V)) : List (Int × V) := m.filter fun e => p e.1

/-- The keys of a map that is ranged over differ. -/
theorem keys_nodup {g : G} (s : Sim g) {V : Type} {kk : IntKind} {vE : V → AV} {i u : Nat} {m : List (Int × V)} {vis : List Value} {cur : Option Value} (hM : g.M[i]? = some (.mapr (encM (kI kk) vE m) vis cur u)) : (m.map (·.1)).Nodup := by
  obtain ⟨_, _, o1, oi, _, _, ents, clock, seen, rfl, _, ⟨ents', clock', hee, hst, hl, hes⟩, _, _⟩ := s.mapr i _ vis cur u hM
  cases hee
  have hml : (encM (kI kk) vE m).length = m.length := by simp [encM]
  have e : ents.toList.map (·.key) = m.map fun e => Value.int kk e.1 := by
    refine List.ext_getElem (by simp only [List.length_map]; omega) fun j h1 h2 => ?_
    simp only [List.length_map] at h1 h2
    have := (hes j (by omega)).1
    simp only [encM, List.getElem_map, kI] at this
    have := this.lit_inv
    rw [List.getD_eq_getElem?_getD, List.getElem?_eq_getElem h1] at this
    simpa using this
  have hnd := hst.2.2
  rw [e] at hnd
  simp only [List.Nodup, List.pairwise_map] at hnd ⊢
  exact hnd.imp fun h h' => h (by rw [h'])

theorem del_filter {V : Type} (k : Int) : ∀ {m : List (Int × V)}, (m.map (·.1)).Nodup → delM eqI k m = m.filter fun e => !(eqI k e.1)
  | [], _ => rfl
  | e :: r, h => by
    rw [List.map_cons, List.nodup_cons] at h
    rw [delM]
    by_cases hk : eqI k e.1 = true
    · rw [if_pos hk, List.filter_cons, if_neg (by simp [hk])]
      have hke : k = e.1 := by simpa [eqI] using hk
      refine (List.filter_eq_self.2 fun x hx => ?_).symm
      have : k ≠ x.1 := fun q => h.1 (List.mem_map.2 ⟨x, hx, by rw [← hke, q]⟩)
      simp [eqI, this]
    · rw [if_neg hk, List.filter_cons, if_pos (by simpa using hk), del_filter k h.2]

open Classical in
/-- A range over a map of numbers whose body strikes what p does not hold of. -/
theorem AWp.prune {c : Code} {V : Type} {kk : IntKind} {vE : V → AV} {id i u mm : Nat} (p : Int → Bool) (m : List (Int × V)) (E : List (Int × V) → List Value → Option Value → St) (EX : List (Int × V) → St)
    (hE : ∀ m' vis cur, (E m' vis cur).M[i]? = some (.mapr (encM (kI kk) vE m') vis cur u)) (hc : Conv B mm σ (E m [] none))
    (round : ∀ m' vis cur, AWp P n B c (fun e σ' => (e = .exit id ∧ (∀ k v, (AV.lit k, v) ∈ encM (kI kk) vE m' → k ∈ vis) ∧ ∃ mx, Conv B mx σ' (EX m')) ∨
      (e = .normal ∧ ∃ k : Int, Value.int kk k ∉ vis ∧ (∃ v, (k, v) ∈ m') ∧ ∃ mx, Conv B mx σ' (E (if p k = true then m' else delM eqI k m') (.int kk k :: vis) (some (.int kk k))))) (E m' vis cur))
    (hq : ∀ σ' mx, Conv B mx σ' (EX (keepM p m)) → Q .normal σ') : AWp P n B (.block id (.loop c)) Q σ := by
  intro g0 g a at_
  obtain ⟨g1, _, at1⟩ := hc.at at_
  have hN := keys_nodup at1.sim (by rw [at1.mem]; exact hE m [] none)
  refine (AWp.block (AWp.loop' (fun q σ => ∃ vis cur, σ = E (m.filter fun e => decide (Value.int kk e.1 ∉ vis) || p e.1) vis cur ∧ q = (m.filter fun e => decide (Value.int kk e.1 ∉ vis)).length + 1) _ mm _
    (hc := ?_) ⟨[], none, rfl, rfl⟩ ?_) : AWp P n B (.block id (.loop c)) Q σ) g0 g a at_
  · have e : (m.filter fun e => decide (Value.int kk e.1 ∉ ([] : List Value)) || p e.1) = m := List.filter_eq_self.2 fun _ _ => by simp
    rw [e]
    exact hc
  · rintro q σ ⟨vis, cur, rfl, rfl⟩
    refine AWp.mono (round _ vis cur) fun e σ' h => ?_
    rcases h with ⟨rfl, h1, mx, h2⟩ | ⟨rfl, k, h1, ⟨v, h2⟩, mx, h3⟩
    · simp only [thenS, blockS, if_true]
      refine hq σ' mx ?_
      have e : (m.filter fun e => decide (Value.int kk e.1 ∉ vis) || p e.1) = m.filter fun e => p e.1 := by
        refine List.filter_congr fun x hx => ?_
        by_cases hv : Value.int kk x.1 ∈ vis
        · simp [hv]
        · have : Value.int kk x.1 ∈ vis := h1 (.int kk x.1) (vE x.2) (List.mem_map.2 ⟨x, List.mem_filter.2 ⟨hx, by simp [hv]⟩, rfl⟩)
          exact absurd this hv
      rw [e] at h2
      exact h2
    · simp only [thenS]
      have hkm := (List.mem_filter.1 h2).1
      refine ⟨_, mx, _, ?_, h3, .int kk k :: vis, some (.int kk k), ?_, rfl⟩
      · refine Nat.succ_lt_succ ?_
        have e : (m.filter fun e => decide (Value.int kk e.1 ∉ Value.int kk k :: vis)) = (m.filter fun e => decide (Value.int kk e.1 ∉ vis)).filter fun e => !(eqI k e.1) := by
          rw [List.filter_filter]
          refine List.filter_congr fun x _ => ?_
          simp only [List.mem_cons, Value.int.injEq, true_and, not_or, eqI]
          by_cases hx : x.1 = k
          · simp [hx]
          · have hx' : ¬ k = x.1 := fun h => hx h.symm
            simp [hx, hx']
        rw [e]
        refine List.length_filter_lt_length_iff_exists.2 ⟨(k, v), List.mem_filter.2 ⟨hkm, by simpa using h1⟩, by simp [eqI]⟩
      · congr 1
        have hN' : ((m.filter fun e => decide (Value.int kk e.1 ∉ vis) || p e.1).map (·.1)).Nodup := (List.filter_sublist.map _).nodup hN
        split
        · rename_i hp
          refine List.filter_congr fun x _ => ?_
          by_cases hx : x.1 = k
          · simp [hx, hp]
          · simp [hx]
        · rename_i hp
          rw [del_filter k hN', List.filter_filter]
          refine List.filter_congr fun x _ => ?_
          simp only [List.mem_cons, Value.int.injEq, true_and, not_or, eqI]
          by_cases hx : x.1 = k
          · simp [hx, hp]
          · have hx' : ¬ k = x.1 := fun h => hx h.symm
            simp [hx, hx']
end Go.Ab
end
section
namespace Go.Ab

/-- An object's relation, and its blocks, are turned; all else is as it was. -/
theorem opq_turn {g : G} (s : Sim g) {i : Nat} {φ φ' : Opq} (hM : g.M[i]? = some (.opq φ)) {w' : World} {rb : Nat} (hsize : g.w.heap.size ≤ w'.heap.size) (io : SameIO g.w w')
    (hblk : ∀ k, k < g.w.heap.size → k ≠ g.β i → k ≠ (g.ρ i).b → w'.heap[k]? = g.w.heap[k]?)
    (hrb : rb = (g.ρ i).b ∨ rb = g.β i ∨ (g.w.heap.size ≤ rb ∧ rb < w'.heap.size)) (hφ : φ' (g.β i) rb (w'.heap[g.β i]?) (w'.heap[rb]?)) :
    Keep g ⟨g.M.set i (.opq φ'), g.β, upd g.ρ i ⟨rb, 0, 0, nobs⟩, w', g.X⟩ ∧ Sim ⟨g.M.set i (.opq φ'), g.β, upd g.ρ i ⟨rb, 0, 0, nobs⟩, w', g.X⟩ := by
  have hil : i < g.M.length := by
    rcases Nat.lt_or_ge i g.M.length with h | h
    · exact h
    · simp [List.getElem?_eq_none h] at hM
  have cov1 : ∀ off, (AObj.opq φ).covers (g.β i) (g.ρ i) ⟨g.β i, off, none⟩ := fun _ => .inl rfl
  have cov2 : ∀ off, (AObj.opq φ).covers (g.β i) (g.ρ i) ⟨(g.ρ i).b, off, none⟩ := fun _ => .inr rfl
  have get : ∀ {j : Nat} {o : AObj}, (g.M.set i (.opq φ'))[j]? = some o → (j ≠ i ∧ g.M[j]? = some o) ∨ (j = i ∧ o = .opq φ') := by
    intro j o h
    rw [List.getElem?_set] at h
    by_cases hj : i = j
    · subst hj
      rw [if_pos rfl, if_pos hil] at h
      exact .inr ⟨rfl, (Option.some.inj h).symm⟩
    · rw [if_neg hj] at h
      exact .inl ⟨fun e => hj e.symm, h⟩
  -- what another object covers lies elsewhere
  have other : ∀ {j : Nat} {o : AObj} {a : Addr}, j ≠ i → g.M[j]? = some o → o.covers (g.β j) (g.ρ j) a → a.block ≠ g.β i ∧ a.block ≠ (g.ρ i).b := by
    intro j o a hj ho hc
    refine ⟨fun e => hj (s.disj j i o _ a ho hM hc (.inl e)), fun e => hj (s.disj j i o _ a ho hM hc (.inr e))⟩
  have heap : ∀ {j : Nat} {o : AObj} {a : Addr}, j ≠ i → g.M[j]? = some o → o.covers (g.β j) (g.ρ j) a → w'.heap[a.block]? = g.w.heap[a.block]? := by
    intro j o a hj ho hc
    exact hblk _ (s.inb a (reg_of ho hc)) (other hj ho hc).1 (other hj ho hc).2
  have unreg : ∀ {a : Addr}, ¬ g.reg a → a.block ≠ g.β i ∧ a.block ≠ (g.ρ i).b := by
    intro a h
    exact ⟨fun e => h (reg_of hM (.inl e)), fun e => h (reg_of hM (.inr e))⟩
  have regs : ∀ a, a.block < g.w.heap.size → ¬ g.reg a → ¬ (⟨g.M.set i (.opq φ'), g.β, upd g.ρ i ⟨rb, 0, 0, nobs⟩, w', g.X⟩ : G).reg a := by
    intro a ha hr hr'
    rcases hr' with hr' | ⟨j, o, hj, hc⟩
    · exact hr (.inl hr')
    rcases get hj with ⟨hne, hj'⟩ | ⟨rfl, rfl⟩
    · exact hr (reg_of hj' (by simpa [upd_other _ _ hne] using hc))
    · have hc' : a.block = g.β j ∨ a.block = rb := by simpa [AObj.covers] using hc
      have h2 := unreg hr
      rcases hc' with h | h
      · exact h2.1 h
      · rcases hrb with h' | h' | h'
        · exact h2.2 (h.trans h')
        · exact h2.1 (h.trans h')
        · omega
  have xne : ∀ {a : Addr}, g.X a → a.block ≠ g.β i ∧ a.block ≠ (g.ρ i).b := fun h =>
    ⟨fun e => s.xdis _ h ⟨i, _, hM, .inl e⟩, fun e => s.xdis _ h ⟨i, _, hM, .inr e⟩⟩
  have k : Keep g ⟨g.M.set i (.opq φ'), g.β, upd g.ρ i ⟨rb, 0, 0, nobs⟩, w', g.X⟩ := by
    refine ⟨⟨by simp, fun _ _ => rfl, fun t ht e' he' => ?_, hsize, fun a x hx hr => ?_, regs, fun b hb hr => ?_, io⟩, fun _ h => h, fun a ha hx => ?_, fun b hb hx => ?_⟩
    · rcases get he' with ⟨hne, h⟩ | ⟨_, h⟩
      · exact ⟨e', h, Nat.le_refl _, fun _ => upd_other _ _ hne⟩
      · cases h
    · rw [← hx]; simp only [World.cell?]; rw [hblk _ (cell_lt hx) (unreg hr).1 (unreg hr).2]
    · exact hblk b hb (unreg (hr 0)).1 (unreg (hr 0)).2
    · simp only [World.cell?, World.frozen?]; rw [hblk _ ha (xne hx).1 (xne hx).2]; exact ⟨rfl, rfl⟩
    · exact hblk b hb (xne (hx 0)).1 (xne (hx 0)).2
  have hin : ∀ a, (⟨g.M.set i (.opq φ'), g.β, upd g.ρ i ⟨rb, 0, 0, nobs⟩, w', g.X⟩ : G).reg a → a.block < w'.heap.size := by
    intro a ha
    rcases ha with ha | ⟨j, o, hj, hc⟩
    · exact Nat.lt_of_lt_of_le (s.inb a (.inl ha)) hsize
    rcases get hj with ⟨hne, hj'⟩ | ⟨rfl, rfl⟩
    · exact Nat.lt_of_lt_of_le (s.inb a (reg_of hj' (by simpa [upd_other _ _ hne] using hc))) hsize
    · have hc' : a.block = g.β j ∨ a.block = rb := by simpa [AObj.covers] using hc
      have l1 := whole_lt s hM (.inl rfl)
      have l2 := whole_lt s hM (.inr rfl)
      show a.block < w'.heap.size
      rcases hc' with h | h
      · omega
      · rcases hrb with h' | h' | h' <;> omega
  refine ⟨k, ?_⟩
  refine ⟨s.fct.keep k, fun j cells hj => ?_, fun j t pos hj => ?_, fun t e ht q hq => ?_, fun j1 j2 o1 o2 a h1 h2 c1 c2 => ?_, fun a ha => ?_, fun a hx hr => ?_, fun j es hj => ?_, fun j es vis cur t hj => ?_, fun j ψ hj => ?_, fun j Po cur hj => ?_, fun j z els hj => ?_⟩
  · rcases get hj with ⟨hne, h⟩ | ⟨_, h⟩
    · obtain ⟨xs, T, h1, h2, h3, h4⟩ := s.blk j cells h
      exact ⟨xs, T, (heap (a := ⟨g.β j, 0, none⟩) hne h rfl).trans h1, h2, fun q hq => (h3 q hq).keep k, h4⟩
    · cases h
  · rcases get hj with ⟨hne, h⟩ | ⟨_, h⟩
    · exact (heap (a := ⟨g.β j, 0, none⟩) hne h rfl).trans (s.iter j t pos h)
    · cases h
  · rcases get ht with ⟨hne, h⟩ | ⟨_, h⟩
    · simp only [upd_other _ _ hne] at hq ⊢
      obtain ⟨x, h1, h2⟩ := s.room t e h q hq
      have hh := heap (a := ⟨(g.ρ t).b, (g.ρ t).off + q, none⟩) hne h (show _ ∧ _ ∧ _ from ⟨rfl, by simp only; omega, by simp only; omega⟩)
      simp only at hh
      refine ⟨x, ?_, ?_⟩
      · simp only [World.cell?] at h1 ⊢; rw [hh]; exact h1
      · simp only [World.frozen?] at h2 ⊢; rw [hh]; exact h2
    · cases h
  · rcases get h1 with ⟨n1, g1⟩ | ⟨e1, rfl⟩ <;> rcases get h2 with ⟨n2, g2⟩ | ⟨e2, rfl⟩
    · simp only [upd_other _ _ n1, upd_other _ _ n2] at c1 c2
      exact s.disj j1 j2 o1 o2 a g1 g2 c1 c2
    · exfalso
      simp only [upd_other _ _ n1] at c1
      subst e2
      have hc : a.block = g.β j2 ∨ a.block = rb := by simpa [AObj.covers] using c2
      have ho := other n1 g1 c1
      have hl := s.inb a (reg_of g1 c1)
      rcases hc with h | h
      · exact ho.1 h
      · rcases hrb with h' | h' | h'
        · exact ho.2 (h.trans h')
        · exact ho.1 (h.trans h')
        · omega
    · exfalso
      simp only [upd_other _ _ n2] at c2
      subst e1
      have hc : a.block = g.β j1 ∨ a.block = rb := by simpa [AObj.covers] using c1
      have ho := other n2 g2 c2
      have hl := s.inb a (reg_of g2 c2)
      rcases hc with h | h
      · exact ho.1 h
      · rcases hrb with h' | h' | h'
        · exact ho.2 (h.trans h')
        · exact ho.1 (h.trans h')
        · omega
    · rw [e1, e2]
  · exact hin a ha
  · obtain ⟨j, o, hj, hc⟩ := hr
    have hx0 := xne hx
    have hl := s.inb a (.inl hx)
    rcases get hj with ⟨hne, hj'⟩ | ⟨rfl, rfl⟩
    · exact s.xdis a hx ⟨j, o, hj', by simpa [upd_other _ _ hne] using hc⟩
    · have hc' : a.block = g.β j ∨ a.block = rb := by simpa [AObj.covers] using hc
      rcases hc' with h | h
      · exact hx0.1 h
      · rcases hrb with h' | h' | h'
        · exact hx0.2 (h.trans h')
        · exact hx0.1 (h.trans h')
        · omega
  · rcases get hj with ⟨hne, h⟩ | ⟨_, h⟩
    · obtain ⟨o, h1, h2⟩ := s.mapo j es h
      exact ⟨o, (heap (a := ⟨g.β j, 0, none⟩) hne h rfl).trans h1, h2.keep k⟩
    · cases h
  · rcases get hj with ⟨hne, h⟩ | ⟨_, h⟩
    · obtain ⟨t1, t2, o, oi, h1, h2, h3⟩ := s.mapr j es vis cur t h
      simp only [upd_other _ _ hne]
      exact ⟨by simpa using t1, t2, o, oi, (heap (a := ⟨g.β j, 0, none⟩) hne h (.inl rfl)).trans h1, (heap (a := ⟨(g.ρ j).b, 0, none⟩) hne h (.inr rfl)).trans h2, h3.keep k⟩
    · cases h
  · rcases get hj with ⟨hne, h⟩ | ⟨rfl, h⟩
    · have e1 := heap (a := ⟨g.β j, 0, none⟩) hne h (.inl rfl)
      have e2 := heap (a := ⟨(g.ρ j).b, 0, none⟩) hne h (.inr rfl)
      simp only at e1 e2
      simp only [upd_other _ _ hne]
      show ψ.rel ψ.bs _ _ (w'.heap[g.β j]?) (w'.heap[(g.ρ j).b]?)
      rw [e1, e2]; exact s.opq j ψ h
    · cases h
      simp only [upd_same]
      exact hφ
  · rcases get hj with ⟨hne, h⟩ | ⟨_, h⟩
    · exact s.ownKeep k.toKeep0 hin h hj rfl (by simp [upd_other _ _ hne]) fun b hb => heap (a := ⟨b, 0, none⟩) hne h (AObj.whole.covers hb)
    · cases h
  · rcases get hj with ⟨hne, h⟩ | ⟨_, h⟩
    · exact (s.arr j z els h).keep0 k.toKeep0 fun hz => heap (a := ⟨g.β j, 0, none⟩) hne h ⟨hz, rfl⟩
    · cases h

/-- A region that makes such an object. -/
theorem AWp.regAlloc {P : Program} {n B : Nat} {Q : Exit → St → Prop} {σ : St} {id d1 : Nat} {ops : Array Oper} {o1 : Oper} {T : TypeId} {z : Value} {cs : Array Value} (φ : Opq) (ho : ops.toList = [o1]) (ho1 : o1.op = .alloc T) (hg : o1.guard = none)
    (hd1 : o1.dst = some d1) (hd : dstsOk ops n ops.toList [] = true) (hn : noTags σ.A = true) (hz : ∀ w, (zeroValue T).run P w = .ok z w) (hc : z.cells = cs)
    (hφ : ∀ b o, φ b b (some (.cells cs T (0, 0))) o) {dead : List Nat} (h : Q .normal ⟨⟨d1, none, .ptr σ.M.length 0⟩ :: without dead (without [d1] σ.A), σ.M ++ [.opq φ]⟩) :
    AWp P n B (.region id ops false) Q σ := by
  obtain ⟨A, M⟩ := σ
  intro g0 g a at_
  have hgM : g.M = M := at_.mem
  have htags : tagsIn A [] := fun e he τ hτ => by
    have := List.all_eq_true.1 hn e he
    simp [hτ] at this
  have hd' := hd
  rw [ho] at hd'
  unfold dstsOk at hd'
  rw [hd1] at hd'
  simp only [Bool.and_eq_true] at hd'
  have htag : tagOf ops o1 = some none := by unfold tagOf; rw [hg]
  have hdl : d1 < a.tmps.size := by
    rw [at_.size]
    simpa using hd'.1
  refine wp_region_list ?_
  rw [ho]
  unfold wpList
  rw [wanted_iff htag]
  simp only [tagB, if_true]
  left
  have hrun : (Instr.alloc T true (.tuple #[])).run P g.w = .ok (.pointer (some ⟨g.w.heap.size, 0, none⟩)) { g.w with heap := g.w.heap.push (.cells cs T) } := by
    simp [Instr.alloc, hz, newVar, newRow, hc]
  have hDoes : Does P o1 a g.w (fun v' w'' => v' = .pointer (some ⟨g.w.heap.size, 0, none⟩) ∧ w'' = { g.w with heap := g.w.heap.push (.cells cs T) }) := by
    obtain ⟨dst, op, type, pos, after, guard⟩ := o1
    simp only at ho1
    subst ho1
    unfold Does
    show After P _ ((do pure (Next.value (← Instr.alloc T true (.tuple #[])))).run P g.w)
    rw [Sem.run_bind, hrun]
    exact ⟨rfl, rfl⟩
  refine hDoes.wp fun v' w'' hv => ?_
  obtain ⟨rfl, rfl⟩ := hv
  rw [hd1]
  have hcov : ∀ x, (AObj.opq φ).covers g.w.heap.size (⟨g.w.heap.size, 0, 0, nobs⟩ : Room) x → x.block = g.w.heap.size := fun x hx => Or.elim hx (fun h => h) (fun h => h)
  have k := keep_add (g := g) (ao := .opq φ) (r := ⟨g.w.heap.size, 0, 0, nobs⟩) (w' := { g.w with heap := g.w.heap.push (.cells cs T) }) rfl hcov
  have s' := sim_add (g := g) (ao := .opq φ) (r := ⟨g.w.heap.size, 0, 0, nobs⟩) (w' := { g.w with heap := g.w.heap.push (.cells cs T) }) rfl hcov at_.sim
    (fun cs hcs => by cases hcs) (fun _ _ h => by cases h) (fun _ h => by cases h) (hopq := fun ψ hψ => by
      cases hψ
      simp only [Array.getElem?_push_size]
      exact hφ _ _)
  have hr : R (g.add (.opq φ) ⟨g.w.heap.size, 0, 0, nobs⟩ { g.w with heap := g.w.heap.push (.cells cs T) }) (.ptr g.M.length 0) (.pointer (some ⟨g.w.heap.size, 0, none⟩)) := by
    have q : R (g.add (.opq φ) ⟨g.w.heap.size, 0, 0, nobs⟩ { g.w with heap := g.w.heap.push (.cells cs T) }) (.ptr g.M.length 0) (.pointer (some ⟨(g.add (.opq φ) ⟨g.w.heap.size, 0, 0, nobs⟩ { g.w with heap := g.w.heap.push (.cells cs T) }).β g.M.length, 0, none⟩)) :=
      .ptr _ _ (by simp [G.add])
    simp only [G.add, upd_same] at q
    exact q
  have hA' := (EnvRel.keep k at_.env).put (a := a) (dst := some d1) (tag := none) (fun d hd => by cases hd; exact ⟨hdl, free_of htags (by simp), fun τ hτ => by cases hτ⟩) hr
  unfold wpList
  refine ⟨_, g.add (.opq φ) ⟨g.w.heap.size, 0, 0, nobs⟩ { g.w with heap := g.w.heap.push (.cells cs T) }, h, rfl, at_.base, at_.ax, at_.keep.trans k, ?_, s', ?_, by rw [size_put]; exact at_.size, by rw [defers_put]; exact at_.defers⟩
  · show g.M ++ _ = M ++ _
    rw [hgM]
  · intro t tag av he
    rw [hgM] at hA'
    by_cases ht : d1 = t
    · subst ht
      refine hA' _ _ _ ?_
      simpa [ent] using he
    · refine hA' _ _ _ ?_
      have he' : ent (without dead (without [d1] A)) t = some (tag, av) := by simpa [ent, ht] using he
      rw [without_ent] at he'
      split at he'
      · cases he'
      rw [without_ent] at he'
      split at he'
      · cases he'
      · simpa [ent, ht] using he'
end Go.Ab
end

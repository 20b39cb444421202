/- Maps whose values own what they point to: the steps of a run at which an entry is opened and closed. No condition: over any program. -/
import Derived.Test.YtnoeflijefijcaaPm
namespace Go.Ab
theorem View.see {n B : Nat} {A : Env} {M M' : List AObj} (h : View M M') : See n B ⟨A, M⟩ ⟨A, M'⟩ := by
  intro g0 g a at_
  obtain ⟨β, ρ, s', k⟩ := h g at_.mem at_.sim
  exact ⟨⟨M', β, ρ, g.w, g.X⟩, rfl, at_.base, at_.ax, at_.keep.trans k, rfl, s', at_.env.keep k, at_.size, at_.defers⟩
section
variable {n B : Nat} {A : Env} {M M' : List AObj}
variable {K T : Type} {key : Value → Prop} {kE : K → Value} {fl : T → AV} {N : T → List AObj} {V : T → AV} {eq : K → K → Bool}

theorem pairs_nodup {ents : Array MapEntry} {clock : Nat} (h : MapKept.Stamped ents clock) : ((pairsOf ents).map (·.1)).Nodup := by
  have := h.2.2
  simpa [pairsOf, List.map_map, Function.comp_def] using this

/-- The entry is there: its objects come up behind the others. -/
theorem See.openM (he : KeyEq eq kE) (i : Nat) (k : K) (x : T) (rows : List (K × T)) (hf : findM eq k rows = some x) (hi : M[i]? = some (.own (ownP key kE fl N V rows none) none))
    (hM : M.set i (.own (ownP key kE fl N V rows (some (kE k))) (some (kE k, some ((V x).ren (· + M.length))))) ++ (N x).map (AObj.ren (· + M.length)) = M') : See n B ⟨A, M⟩ ⟨A, M'⟩ := by
  subst hM
  exact View.see (view_open (P1 := ownP key kE fl N V rows (some (kE k))) (kv := kE k) (N := N x) (V := V x) hi rfl fun w C bs l h hn => Rows.open he h hn hf)

/-- The map turns, the world as it is. -/
theorem view_turn {i : Nat} {P0 P1 : Own} {cur cur' : Option (Value × Option AV)} (hi : M[i]? = some (.own P0 cur)) (hkey : P1.key = P0.key)
    (hrel : ∀ w C bs l, P0.rel w C bs l → (l.map (·.1)).Nodup → (∀ k, cur = some (k, none) → ∀ e ∈ l, e.1 ≠ k) → P1.rel w C bs l ∧ ∀ k v, cur' = some (k, v) → v = none ∧ ∀ e ∈ l, e.1 ≠ k) : View M (M.set i (.own P1 cur')) := by
  rintro g rfl sm
  obtain ⟨ents, clock, h1, h2, h3, h4, h5, h6⟩ := sm.own i P0 cur hi
  have hw : Within g i (.own P1 cur') (g.ρ i) := fun a ha => .inl ⟨_, hi, ha⟩
  have hreg : ∀ a, (g.put i (.own P1 cur') (g.ρ i) g.w).reg a → g.reg a := by
    rintro a (h | ⟨j, o, hj, hc⟩)
    · exact .inl h
    · rcases put_get hj with ⟨q1, q2⟩ | ⟨rfl, rfl⟩
      · exact reg_of q2 (by simpa [G.put, upd_other _ _ q1] using hc)
      · have hc' : (AObj.own P1 cur').covers (g.β j) (g.ρ j) a := by simpa only [G.put, upd_same] using hc
        exact reg_of hi (show (AObj.own P0 cur).covers (g.β j) (g.ρ j) a from hc')
  have k : Keep g (g.put i (.own P1 cur') (g.ρ i) g.w) := keep_put hw (fun _ h => by cases h) (Nat.le_refl _) (fun _ _ h _ => h) (fun _ _ _ => rfl) ⟨rfl, rfl⟩ (fun _ _ _ => ⟨rfl, rfl⟩) fun _ _ _ => rfl
  have hlt := lt_of_some hi
  have hgi : (g.put i (.own P1 cur') (g.ρ i) g.w).M[i]? = some (.own P1 cur') := by simp [G.put, hlt]
  have habs : ∀ c, cur = some (c, none) → ∀ e ∈ pairsOf ents, e.1 ≠ c := fun c hc e he => by
    obtain ⟨x, hx, rfl⟩ := List.mem_map.1 he
    exact h6 c none hc x hx
  obtain ⟨r1, r2⟩ := hrel _ _ _ _ h5 (pairs_nodup h2) habs
  refine ⟨g.β, upd g.ρ i (g.ρ i), ?_, k⟩
  refine sim_put hw sm k (fun _ _ _ _ _ _ => rfl) (fun j e hj ho m hm => sm.room j e ho m hm) (fun a ha => sm.inb a ha) (fun a ha => sm.inb a (reg_of hi ha)) (fun _ h => by cases h) (fun _ _ h => by cases h) (fun _ h => by cases h) (nown := fun Q cu h => ?_)
  simp only [AObj.own.injEq] at h
  obtain ⟨rfl, rfl⟩ := h
  refine ⟨ents, clock, h1, h2, by rw [hkey]; exact h3, h4, ?_, fun c v hc => ?_⟩
  · exact P1.keep ⟨Nat.le_refl _, fun _ _ h _ => h, fun a _ h q => h (hreg a q), fun _ _ _ => rfl, ⟨rfl, rfl⟩, fun _ _ => rfl, fun a h => reg_of hi (.inr h), fun a h => reg_of hgi (.inr (by simpa [G.put] using h)), fun a h => sm.inb a (hreg a h)⟩ r1
  · obtain ⟨rfl, q⟩ := r2 c v hc
    intro e he
    exact q _ (List.mem_map.2 ⟨e, he, rfl⟩)

/-- The key is not there. -/
theorem See.missM (he : KeyEq eq kE) (i : Nat) (k : K) (rows : List (K × T)) (hf : findM eq k rows = none) (hi : M[i]? = some (.own (ownP key kE fl N V rows none) none))
    (hM : M.set i (.own (ownP key kE fl N V rows none) (some (kE k, none))) = M') : See n B ⟨A, M⟩ ⟨A, M'⟩ := by
  subst hM
  refine View.see (view_turn (P1 := ownP key kE fl N V rows none) (cur' := some (kE k, none)) hi rfl fun w C bs l h hn _ => ⟨h, fun k' v hc => ?_⟩)
  cases hc
  refine ⟨rfl, fun e hm q => ?_⟩
  have hmem : kE k ∈ rows.map fun e => kE e.1 := by
    rw [← Rows.mem h]; exact List.mem_map.2 ⟨e, hm, q⟩
  obtain ⟨e', h1, h2⟩ := List.mem_map.1 hmem
  exact findM_none he hf e' h1 h2

/-- A key that is not there is let go. -/
theorem See.shutM (i : Nat) {Po : Own} {kv : Value} (hi : M[i]? = some (.own Po (some (kv, none)))) (hM : M.set i (.own Po none) = M') : See n B ⟨A, M⟩ ⟨A, M'⟩ := by
  subst hM
  exact View.see (view_turn (P1 := Po) (cur' := none) hi rfl fun w C bs l h _ _ => ⟨h, fun _ _ hc => by cases hc⟩)

/-- The entry is closed: its objects go in again. -/
theorem See.closeM (he : KeyEq eq kE) (i : Nat) (k : K) (x : T) (rows : List (K × T)) (π : List Nat) {av : AV} (hi : M[i]? = some (.own (ownP key kE fl N V rows (some (kE k))) (some (kE k, some av)))) (hn : π.Nodup) (hl : π.length = (N x).length) (hip : i ∉ π)
    (hG : ∀ (k' j : Nat), π[k']? = some j → M[j]? = ((N x)[k']?).map (AObj.ren (into π (N x).length M.length))) (hav : av = (V x).ren (into π (N x).length M.length)) (hN : ∀ o ∈ N x, o.isRoom = false)
    (hM : (killAll M π).set i (.own (ownP key kE fl N V (setM eq k x rows) none) none) = M') : See n B ⟨A, M⟩ ⟨A, M'⟩ :=
  View.see (view_close (P0 := ownP key kE fl N V (setM eq k x rows) none) π hi hn hl hip hG hav hN rfl (fun _ _ _ _ _ _ _ h1 h2 h3 h4 h5 h6 => Rows.close he h1 h2 h3 h4 h5 h6) hM)

/-- An entry more. -/
theorem See.newM (he : KeyEq eq kE) (i : Nat) (k : K) (x : T) (rows : List (K × T)) (π : List Nat) {av : AV} (hi : M[i]? = some (.own ((ownP key kE fl N V rows none).push (kE k)) (some (kE k, some av)))) (hn : π.Nodup) (hl : π.length = (N x).length) (hip : i ∉ π)
    (hG : ∀ (k' j : Nat), π[k']? = some j → M[j]? = ((N x)[k']?).map (AObj.ren (into π (N x).length M.length))) (hav : av = (V x).ren (into π (N x).length M.length)) (hN : ∀ o ∈ N x, o.isRoom = false)
    (hM : (killAll M π).set i (.own (ownP key kE fl N V (setM eq k x rows) none) none) = M') : See n B ⟨A, M⟩ ⟨A, M'⟩ := by
  refine View.see (view_close (P0 := ownP key kE fl N V (setM eq k x rows) none) π hi hn hl hip hG hav hN rfl (fun w C bs b1 b2 l u h1 h2 h3 h4 h5 h6 => ?_) hM)
  obtain ⟨l', u', rfl, h⟩ := h1
  rw [List.map_append] at h2
  obtain ⟨_, _, n3⟩ := List.nodup_append.1 h2
  have hno : ∀ e ∈ l', e.1 ≠ kE k := fun e hm q => n3 e.1 (List.mem_map.2 ⟨e, hm, rfl⟩) (kE k) (by simp) q
  have hu : u = u' := by
    rcases List.mem_append.1 h3 with h | h
    · exact absurd rfl (hno _ h)
    · simp only [List.mem_singleton, Prod.mk.injEq] at h; exact h.2
  subst hu
  have hset : setM eq k x rows = rows ++ [(k, x)] := by
    have hr : ∀ e ∈ rows, kE e.1 ≠ kE k := fun e hm q => by
      have : kE e.1 ∈ l'.map (·.1) := by rw [Rows.mem h]; exact List.mem_map.2 ⟨e, hm, rfl⟩
      obtain ⟨e', q1, q2⟩ := List.mem_map.1 this
      exact hno e' q1 (q2.trans q)
    clear h hM hi
    induction rows with
    | nil => rfl
    | cons e r ih =>
      have : eq k e.1 = false := by
        cases hc : eq k e.1 with
        | true => exact absurd ((he k e.1).1 hc).symm (hr e (.head _))
        | false => rfl
      simp only [setM, this, Bool.false_eq_true, if_false, List.cons_append]
      rw [ih fun e he => hr e (.tail _ he)]
  rw [hset]
  exact Rows.push h h4 h5 h6

/-- A map without entries. -/
theorem view_empty {i : Nat} (hi : M[i]? = some (.mapo [])) : View M (M.set i (.own (ownP key kE fl N V [] none) none)) := by
  rintro g rfl sm
  obtain ⟨o, h1, ents, clock, rfl, h2, h3, _⟩ := sm.mapo i [] hi
  have hnil : ents.toList = [] := List.eq_nil_of_length_eq_zero h3
  let r : Room := ⟨(g.ρ i).b, (g.ρ i).off, (g.ρ i).cnt, nobs⟩
  have hw : Within g i (.own (ownP key kE fl N V [] none) none) r := fun a ha => .inl ⟨_, hi, by
    rcases ha with ha | ha
    · exact ha
    · exact ha.elim⟩
  have k : Keep g (g.put i (.own (ownP key kE fl N V [] none) none) r g.w) := keep_put hw (fun _ h => by cases h) (Nat.le_refl _) (fun _ _ h _ => h) (fun _ _ _ => rfl) ⟨rfl, rfl⟩ (fun _ _ _ => ⟨rfl, rfl⟩) fun _ _ _ => rfl
  refine ⟨g.β, upd g.ρ i r, ?_, k⟩
  refine sim_put hw sm k (fun _ _ _ _ _ _ => rfl) (fun j e hj ho m hm => sm.room j e ho m hm) (fun a ha => sm.inb a ha) (fun a ha => ?_) (fun _ h => by cases h) (fun _ _ h => by cases h) (fun _ h => by cases h) (nown := fun Q cu h => ?_)
  · rcases ha with ha | ha
    · exact sm.inb a (reg_of hi ha)
    · exact ha.elim
  · simp only [AObj.own.injEq] at h
    obtain ⟨rfl, rfl⟩ := h
    have hk : ∀ e ∈ ents.toList, (ownP key kE fl N V ([] : List (K × T)) none).key e.key := fun e he => by
      rw [hnil] at he
      cases he
    refine ⟨ents, clock, h1, h2, hk, fun h => h, ?_, fun _ _ hc => by cases hc⟩
    have : pairsOf ents = [] := by simp [pairsOf, hnil]
    rw [this]
    exact Rows.nil _ fun b h => h
theorem See.emptyM (i : Nat) (hi : M[i]? = some (.mapo [])) (hM : M.set i (.own (ownP key kE fl N V [] none) none) = M') : See n B ⟨A, M⟩ ⟨A, M'⟩ := by
  subst hM
  exact View.see (view_empty hi)
end

def nthF (v : AV) (i : Nat) : AV :=
  match v with
  | .agg cs => cs.getD i default
  | _ => default
theorem keyEq_I (k : IntKind) : KeyEq eqI (Value.int k) := fun a b => by simp [eqI]
/-- What is written anew as it was. -/
theorem setM_found {T : Type} {k : Int} {x : T} : ∀ {rows : List (Int × T)}, findM eqI k rows = some x → setM eqI k x rows = rows
  | [], h => by cases h
  | (c, y) :: r, h => by
    unfold findM at h
    unfold setM
    by_cases hc : eqI k c = true
    · simp only [hc, if_true] at h ⊢
      have : k = c := by simpa [eqI] using hc
      rw [this, Option.some.inj h]
    · simp only [hc] at h ⊢
      simp only [Bool.false_eq_true, if_false] at h ⊢
      rw [setM_found h]
section
variable {n B : Nat} {A : Env} {M M' : List AObj}
variable {T : Type} {key : Value → Prop} {kk : IntKind} {fl : T → AV} {N : T → List AObj} {V : T → AV}
theorem grp {π : List Nat} {N0 M : List AObj} {σ : Nat → Nat} (h : (π.map fun j => M[j]?) = N0.map fun o => some (o.ren σ)) :
    π.length = N0.length ∧ ∀ (k' j : Nat), π[k']? = some j → M[j]? = (N0[k']?).map (AObj.ren σ) := by
  refine ⟨by have := congrArg List.length h; simpa using this, fun k' j hk => ?_⟩
  have h1 : (π.map fun j => M[j]?)[k']? = (N0.map fun o => some (o.ren σ))[k']? := by rw [h]
  rw [List.getElem?_map, List.getElem?_map, hk] at h1
  simp only [Option.map_some] at h1
  cases hN : N0[k']? with
  | none => rw [hN] at h1; simp at h1
  | some o => rw [hN] at h1; simp only [Option.map_some, Option.some.injEq] at h1 ⊢; exact h1
/-- The entry of a number is closed. -/
theorem See.closeI (i : Nat) (k : Int) (x : T) (rows : List (Int × T)) (π : List Nat) {av : AV} (hi : M[i]? = some (.own (ownP key (Value.int kk) fl N V rows (some (.int kk k))) (some (.int kk k, some av)))) (hn : (i :: π).Nodup)
    (hG : (π.map fun j => M[j]?) = (N x).map fun o => some (o.ren (into π (N x).length M.length))) (hav : av = (V x).ren (into π (N x).length M.length)) (hN : ∀ o ∈ N x, o.isRoom = false)
    (hM : (killAll M π).set i (.own (ownP key (Value.int kk) fl N V (setM eqI k x rows) none) none) = M') : See n B ⟨A, M⟩ ⟨A, M'⟩ :=
  See.closeM (keyEq_I kk) i k x rows π hi (List.nodup_cons.1 hn).2 (grp hG).1 (List.nodup_cons.1 hn).1 (grp hG).2 hav hN hM
theorem See.closeS (i : Nat) (k : Int) (x : T) (rows : List (Int × T)) (π : List Nat) {av : AV} (hf : findM eqI k rows = some x) (hi : M[i]? = some (.own (ownP key (Value.int kk) fl N V rows (some (.int kk k))) (some (.int kk k, some av)))) (hn : (i :: π).Nodup)
    (hG : (π.map fun j => M[j]?) = (N x).map fun o => some (o.ren (into π (N x).length M.length))) (hav : av = (V x).ren (into π (N x).length M.length)) (hN : ∀ o ∈ N x, o.isRoom = false)
    (hM : (killAll M π).set i (.own (ownP key (Value.int kk) fl N V rows none) none) = M') : See n B ⟨A, M⟩ ⟨A, M'⟩ :=
  See.closeI i k x rows π hi hn hG hav hN (by rw [setM_found hf]; exact hM)
theorem See.newI (i : Nat) (k : Int) (x : T) (rows : List (Int × T)) (π : List Nat) {av : AV} (hi : M[i]? = some (.own ((ownP key (Value.int kk) fl N V rows none).push (.int kk k)) (some (.int kk k, some av)))) (hn : (i :: π).Nodup)
    (hG : (π.map fun j => M[j]?) = (N x).map fun o => some (o.ren (into π (N x).length M.length))) (hav : av = (V x).ren (into π (N x).length M.length)) (hN : ∀ o ∈ N x, o.isRoom = false)
    (hM : (killAll M π).set i (.own (ownP key (Value.int kk) fl N V (setM eqI k x rows) none) none) = M') : See n B ⟨A, M⟩ ⟨A, M'⟩ :=
  See.newM (keyEq_I kk) i k x rows π hi (List.nodup_cons.1 hn).2 (grp hG).1 (List.nodup_cons.1 hn).1 (grp hG).2 hav hN hM
theorem See.openI (i : Nat) (k : Int) (x : T) (rows : List (Int × T)) (hf : findM eqI k rows = some x) (hi : M[i]? = some (.own (ownP key (Value.int kk) fl N V rows none) none))
    (hM : M.set i (.own (ownP key (Value.int kk) fl N V rows (some (.int kk k))) (some (.int kk k, some ((V x).ren (· + M.length))))) ++ (N x).map (AObj.ren (· + M.length)) = M') : See n B ⟨A, M⟩ ⟨A, M'⟩ :=
  See.openM (keyEq_I kk) i k x rows hf hi hM
theorem See.missI (i : Nat) (k : Int) (rows : List (Int × T)) (hf : findM eqI k rows = none) (hi : M[i]? = some (.own (ownP key (Value.int kk) fl N V rows none) none))
    (hM : M.set i (.own (ownP key (Value.int kk) fl N V rows none) (some (.int kk k, none))) = M') : See n B ⟨A, M⟩ ⟨A, M'⟩ :=
  See.missM (keyEq_I kk) i k rows hf hi hM
end
/-- The keys are numbers of this kind. -/
def intKey (k : IntKind) (v : Value) : Prop := keyOk (.int k) v = true
@[simp] theorem intKey_int (k : IntKind) (x : Int) : intKey k (.int k x) ↔ True := by simp [intKey]
@[simp] theorem ownKey_ownP {T : Type} {k : IntKind} (kE : Int → Value) (fl : T → AV) (N : T → List AObj) (V : T → AV) (rows : List (Int × T)) (hole : Option Value) : OwnKey (.int k) (ownP (intKey k) kE fl N V rows hole) ↔ True :=
  ⟨fun _ => trivial, fun _ _x hx => hx⟩
@[simp] theorem key_ownP {K T : Type} (key : Value → Prop) (kE : K → Value) (fl : T → AV) (N : T → List AObj) (V : T → AV) (rows : List (K × T)) (hole : Option Value) : (ownP key kE fl N V rows hole).key = key := rfl
@[simp] theorem data_ownP {T : Type} (key : Value → Prop) (kk : IntKind) (fl : T → AV) (N : T → List AObj) (V : T → AV) (rows : List (Int × T)) (hole : Option Value) : (ownP key (Value.int kk) fl N V rows hole).data = encM (kI kk) fl rows := rfl
attribute [simp] AObj.isRoom

/-! ### An array: the mark ahead of it, and its end -/
def frzO (i : Nat) (els : List (List AV)) : AObj → AObj
  | .blk cs => .blk (cs.map (lendA i els))
  | o => o
def frzE (i : Nat) (els : List (List AV)) (A : Env) : Env := A.map fun e => ⟨e.t, e.tag, lendB i els e.av⟩
def frzOk (i s : Nat) (els : List (List AV)) : List AObj → Prop
  | [] => True
  | .blk cs :: r => lendO i s els cs ∧ frzOk i s els r
  | _ :: r => frzOk i s els r
attribute [simp] frzO frzE frzOk
end Go.Ab

/- Maps whose values own what they point to: the steps of a run at which an entry is opened and closed. No condition: over any program. -/
import Derived.Test.YtpamnignoocogaaGreatDoorPm
namespace Go.Ab
theorem View.see {n B : Nat} {A : Env} {M M' : List AObj} (h : View M M') : See n B ⟨A, M⟩ ⟨A, M'⟩ := by
  intro g0 g a at_
  obtain ⟨β, ρ, s', k⟩ := h g at_.mem at_.sim
  exact ⟨⟨M', β, ρ, g.w, g.X⟩, rfl, at_.base, at_.ax, at_.keep.trans k, rfl, s', at_.env.keep k, at_.size, at_.defers⟩
section
variable {n B : Nat} {A : Env} {M M' : List AObj}
variable {K T : Type} {key : Value → Prop} {kE : K → Value} {fl : T → AV} {N : T → List AObj} {V : T → AV} {eq : K → K → Bool}

theorem pairs_nodup {ents : Array MapEntry} {clock : Nat} (h : MapKept.Stamped ents clock) : ((pairsOf ents).map (·.1)).Nodup := by
  have := h.2.2
  simpa [pairsOf, List.map_map, Function.comp_def] using this

/-- The entry is there: its objects come up behind the others. -/
theorem See.openM (he : KeyEq eq kE) (i : Nat) (k : K) (x : T) (rows : List (K × T)) (hf : findM eq k rows = some x) (hi : M[i]? = some (.own (ownP key kE fl N V rows none) none))
    (hM : M.set i (.own (ownP key kE fl N V rows (some (kE k))) (some (kE k, some ((V x).ren (· + M.length))))) ++ (N x).map (AObj.ren (· + M.length)) = M') : See n B ⟨A, M⟩ ⟨A, M'⟩ := by
  subst hM
  exact View.see (view_open (P1 := ownP key kE fl N V rows (some (kE k))) (kv := kE k) (N := N x) (V := V x) hi rfl fun w C bs l h hn => Rows.open he h hn hf)

/-- The map turns, the world as it is. -/
theorem view_turn {i : Nat} {P0 P1 : Own} {cur cur' : Option (Value × Option AV)} (hi : M[i]? = some (.own P0 cur)) (hkey : P1.key = P0.key)
    (hrel : ∀ w C bs l, P0.rel w C bs l → (l.map (·.1)).Nodup → (∀ k, cur = some (k, none) → ∀ e ∈ l, e.1 ≠ k) → P1.rel w C bs l ∧ ∀ k v, cur' = some (k, v) → v = none ∧ ∀ e ∈ l, e.1 ≠ k) : View M (M.set i (.own P1 cur')) := by
  rintro g rfl sm
  obtain ⟨ents, clock, h1, h2, h3, h4, h5, h6⟩ := sm.own i P0 cur hi
  have hw : Within g i (.own P1 cur') (g.ρ i) := fun a ha => .inl ⟨_, hi, ha⟩
  have hreg : ∀ a, (g.put i (.own P1 cur') (g.ρ i) g.w).reg a → g.reg a := by
    rintro a (h | ⟨j, o, hj, hc⟩)
    · exact .inl h
    · rcases put_get hj with ⟨q1, q2⟩ | ⟨rfl, rfl⟩
      · exact reg_of q2 (by simpa [G.put, upd_other _ _ q1] using hc)
      · have hc' : (AObj.own P1 cur').covers (g.β j) (g.ρ j) a := by simpa only [G.put, upd_same] using hc
        exact reg_of hi (show (AObj.own P0 cur).covers (g.β j) (g.ρ j) a from hc')
  have k : Keep g (g.put i (.own P1 cur') (g.ρ i) g.w) := keep_put hw (fun _ h => by cases h) (Nat.le_refl _) (fun _ _ h _ => h) (fun _ _ _ => rfl) ⟨rfl, rfl⟩ (fun _ _ _ => ⟨rfl, rfl⟩) fun _ _ _ => rfl
  have hlt := lt_of_some hi
  have hgi : (g.put i (.own P1 cur') (g.ρ i) g.w).M[i]? = some (.own P1 cur') := by simp [G.put, hlt]
  have habs : ∀ c, cur = some (c, none) → ∀ e ∈ pairsOf ents, e.1 ≠ c := fun c hc e he => by
    obtain ⟨x, hx, rfl⟩ := List.mem_map.1 he
    exact h6 c none hc x hx
  obtain ⟨r1, r2⟩ := hrel _ _ _ _ h5 (pairs_nodup h2) habs
  refine ⟨g.β, upd g.ρ i (g.ρ i), ?_, k⟩
  refine sim_put hw sm k (fun _ _ _ _ _ _ => rfl) (fun j e hj ho m hm => sm.room j e ho m hm) (fun a ha => sm.inb a ha) (fun a ha => sm.inb a (reg_of hi ha)) (fun _ h => by cases h) (fun _ _ h => by cases h) (fun _ h => by cases h) (nown := fun Q cu h => ?_)
  simp only [AObj.own.injEq] at h
  obtain ⟨rfl, rfl⟩ := h
  refine ⟨ents, clock, h1, h2, by rw [hkey]; exact h3, h4, ?_, fun c v hc => ?_⟩
  · exact P1.keep ⟨Nat.le_refl _, fun _ _ h _ => h, fun a _ h q => h (hreg a q), fun _ _ _ => rfl, ⟨rfl, rfl⟩, fun _ _ => rfl, fun a h => reg_of hi (.inr h), fun a h => reg_of hgi (.inr (by simpa [G.put] using h)), fun a h => sm.inb a (hreg a h)⟩ r1
  · obtain ⟨rfl, q⟩ := r2 c v hc
    intro e he
    exact q _ (List.mem_map.2 ⟨e, he, rfl⟩)

/-- The key is not there. -/
theorem See.missM (he : KeyEq eq kE) (i : Nat) (k : K) (rows : List (K × T)) (hf : findM eq k rows = none) (hi : M[i]? = some (.own (ownP key kE fl N V rows none) none))
    (hM : M.set i (.own (ownP key kE fl N V rows none) (some (kE k, none))) = M') : See n B ⟨A, M⟩ ⟨A, M'⟩ := by
  subst hM
  refine View.see (view_turn (P1 := ownP key kE fl N V rows none) (cur' := some (kE k, none)) hi rfl fun w C bs l h hn _ => ⟨h, fun k' v hc => ?_⟩)
  cases hc
  refine ⟨rfl, fun e hm q => ?_⟩
  have hmem : kE k ∈ rows.map fun e => kE e.1 := by
    rw [← Rows.mem h]; exact List.mem_map.2 ⟨e, hm, q⟩
  obtain ⟨e', h1, h2⟩ := List.mem_map.1 hmem
  exact findM_none he hf e' h1 h2

/-- A key that is not there is let go. -/
theorem See.shutM (i : Nat) {Po : Own} {kv : Value} (hi : M[i]? = some (.own Po (some (kv, none)))) (hM : M.set i (.own Po none) = M') : See n B ⟨A, M⟩ ⟨A, M'⟩ := by
  subst hM
  exact View.see (view_turn (P1 := Po) (cur' := none) hi rfl fun w C bs l h _ _ => ⟨h, fun _ _ hc => by cases hc⟩)

/-- An entry that has been struck. -/
theorem See.struckM (he : KeyEq eq kE) (i : Nat) (k : K) (rows : List (K × T)) (hi : M[i]? = some (.own ((ownP key kE fl N V rows (some (kE k))).del (kE k)) (some (kE k, none))))
    (hM : M.set i (.own (ownP key kE fl N V (delM eq k rows) none) none) = M') : See n B ⟨A, M⟩ ⟨A, M'⟩ := by
  subst hM
  refine View.see (view_turn (P1 := ownP key kE fl N V (delM eq k rows) none) (cur' := none) hi rfl fun w C bs l h hn ha => ⟨?_, fun _ _ hc => by cases hc⟩)
  obtain ⟨l1, u, l2, rfl, h⟩ := h
  refine Rows.del he h ?_
  have hno := ha _ rfl
  rw [List.map_append] at hn
  obtain ⟨n1, n2, n3⟩ := List.nodup_append.1 hn
  rw [List.map_append, List.map_cons]
  refine List.nodup_append.2 ⟨n1, List.nodup_cons.2 ⟨fun h => ?_, n2⟩, fun a ha b hb => ?_⟩
  · obtain ⟨e, q1, q2⟩ := List.mem_map.1 h
    exact hno e (List.mem_append_right _ q1) q2
  · rcases List.mem_cons.1 hb with rfl | hb
    · obtain ⟨e, q1, q2⟩ := List.mem_map.1 ha
      rw [← q2]; exact hno e (List.mem_append_left _ q1)
    · exact n3 a ha b hb

/-- The entry is closed: its objects go in again. -/
theorem See.closeM (he : KeyEq eq kE) (i : Nat) (k : K) (x : T) (rows : List (K × T)) (π : List Nat) {av : AV} (hi : M[i]? = some (.own (ownP key kE fl N V rows (some (kE k))) (some (kE k, some av)))) (hn : π.Nodup) (hl : π.length = (N x).length) (hip : i ∉ π)
    (hG : ∀ (k' j : Nat), π[k']? = some j → M[j]? = ((N x)[k']?).map (AObj.ren (into π (N x).length M.length))) (hav : av = (V x).ren (into π (N x).length M.length)) (hN : ∀ o ∈ N x, o.isRoom = false)
    (hM : (killAll M π).set i (.own (ownP key kE fl N V (setM eq k x rows) none) none) = M') : See n B ⟨A, M⟩ ⟨A, M'⟩ :=
  View.see (view_close (P0 := ownP key kE fl N V (setM eq k x rows) none) π hi hn hl hip hG hav hN rfl (fun _ _ _ _ _ _ _ h1 h2 h3 h4 h5 h6 => Rows.close he h1 h2 h3 h4 h5 h6) hM)

/-- An entry more. -/
theorem See.newM (he : KeyEq eq kE) (i : Nat) (k : K) (x : T) (rows : List (K × T)) (π : List Nat) {av : AV} (hi : M[i]? = some (.own ((ownP key kE fl N V rows none).push (kE k)) (some (kE k, some av)))) (hn : π.Nodup) (hl : π.length = (N x).length) (hip : i ∉ π)
    (hG : ∀ (k' j : Nat), π[k']? = some j → M[j]? = ((N x)[k']?).map (AObj.ren (into π (N x).length M.length))) (hav : av = (V x).ren (into π (N x).length M.length)) (hN : ∀ o ∈ N x, o.isRoom = false)
    (hM : (killAll M π).set i (.own (ownP key kE fl N V (setM eq k x rows) none) none) = M') : See n B ⟨A, M⟩ ⟨A, M'⟩ := by
  refine View.see (view_close (P0 := ownP key kE fl N V (setM eq k x rows) none) π hi hn hl hip hG hav hN rfl (fun w C bs b1 b2 l u h1 h2 h3 h4 h5 h6 => ?_) hM)
  obtain ⟨l', u', rfl, h⟩ := h1
  rw [List.map_append] at h2
  obtain ⟨_, _, n3⟩ := List.nodup_append.1 h2
  have hno : ∀ e ∈ l', e.1 ≠ kE k := fun e hm q => n3 e.1 (List.mem_map.2 ⟨e, hm, rfl⟩) (kE k) (by simp) q
  have hu : u = u' := by
    rcases List.mem_append.1 h3 with h | h
    · exact absurd rfl (hno _ h)
    · simp only [List.mem_singleton, Prod.mk.injEq] at h; exact h.2
  subst hu
  have hset : setM eq k x rows = rows ++ [(k, x)] := by
    have hr : ∀ e ∈ rows, kE e.1 ≠ kE k := fun e hm q => by
      have : kE e.1 ∈ l'.map (·.1) := by rw [Rows.mem h]; exact List.mem_map.2 ⟨e, hm, rfl⟩
      obtain ⟨e', q1, q2⟩ := List.mem_map.1 this
      exact hno e' q1 (q2.trans q)
    clear h hM hi
    induction rows with
    | nil => rfl
    | cons e r ih =>
      have : eq k e.1 = false := by
        cases hc : eq k e.1 with
        | true => exact absurd ((he k e.1).1 hc).symm (hr e (.head _))
        | false => rfl
      simp only [setM, this, Bool.false_eq_true, if_false, List.cons_append]
      rw [ih fun e he => hr e (.tail _ he)]
  rw [hset]
  exact Rows.push h h4 h5 h6

/-- A map without entries. -/
theorem view_empty {i : Nat} (hi : M[i]? = some (.mapo [])) : View M (M.set i (.own (ownP key kE fl N V [] none) none)) := by
  rintro g rfl sm
  obtain ⟨o, h1, ents, clock, rfl, h2, h3, _⟩ := sm.mapo i [] hi
  have hnil : ents.toList = [] := List.eq_nil_of_length_eq_zero h3
  let r : Room := ⟨(g.ρ i).b, (g.ρ i).off, (g.ρ i).cnt, nobs⟩
  have hw : Within g i (.own (ownP key kE fl N V [] none) none) r := fun a ha => .inl ⟨_, hi, by
    rcases ha with ha | ha
    · exact ha
    · exact ha.elim⟩
  have k : Keep g (g.put i (.own (ownP key kE fl N V [] none) none) r g.w) := keep_put hw (fun _ h => by cases h) (Nat.le_refl _) (fun _ _ h _ => h) (fun _ _ _ => rfl) ⟨rfl, rfl⟩ (fun _ _ _ => ⟨rfl, rfl⟩) fun _ _ _ => rfl
  refine ⟨g.β, upd g.ρ i r, ?_, k⟩
  refine sim_put hw sm k (fun _ _ _ _ _ _ => rfl) (fun j e hj ho m hm => sm.room j e ho m hm) (fun a ha => sm.inb a ha) (fun a ha => ?_) (fun _ h => by cases h) (fun _ _ h => by cases h) (fun _ h => by cases h) (nown := fun Q cu h => ?_)
  · rcases ha with ha | ha
    · exact sm.inb a (reg_of hi ha)
    · exact ha.elim
  · simp only [AObj.own.injEq] at h
    obtain ⟨rfl, rfl⟩ := h
    have hk : ∀ e ∈ ents.toList, (ownP key kE fl N V ([] : List (K × T)) none).key e.key := fun e he => by
      rw [hnil] at he
      cases he
    refine ⟨ents, clock, h1, h2, hk, fun h => h, ?_, fun _ _ hc => by cases hc⟩
    have : pairsOf ents = [] := by simp [pairsOf, hnil]
    rw [this]
    exact Rows.nil _ fun b h => h
theorem See.emptyM (i : Nat) (hi : M[i]? = some (.mapo [])) (hM : M.set i (.own (ownP key kE fl N V [] none) none) = M') : See n B ⟨A, M⟩ ⟨A, M'⟩ := by
  subst hM
  exact View.see (view_empty hi)
end

def nthF (v : AV) (i : Nat) : AV :=
  match v with
  | .agg cs => cs.getD i default
  | _ => default
def unbag (v : AV) : List (AV × AV) :=
  match v with
  | .bag l => l.map fun r => (r.getD 0 default, r.getD 1 default)
  | _ => []
@[simp] theorem unbag_bag (l : List (AV × AV)) : unbag (.bag (l.map fun p => [p.1, p.2])) = l := by simp [unbag, Function.comp_def]
theorem keyEq_I (k : IntKind) : KeyEq eqI (Value.int k) := fun a b => by simp [eqI]
/-- What is written anew as it was. -/
theorem setM_found {T : Type} {k : Int} {x : T} : ∀ {rows : List (Int × T)}, findM eqI k rows = some x → setM eqI k x rows = rows
  | [], h => by cases h
  | (c, y) :: r, h => by
    unfold findM at h
    unfold setM
    by_cases hc : eqI k c = true
    · simp only [hc, if_true] at h ⊢
      have : k = c := by simpa [eqI] using hc
      rw [this, Option.some.inj h]
    · simp only [hc] at h ⊢
      simp only [Bool.false_eq_true, if_false] at h ⊢
      rw [setM_found h]
section
variable {n B : Nat} {A : Env} {M M' : List AObj}
variable {T : Type} {key : Value → Prop} {kk : IntKind} {fl : T → AV} {N : T → List AObj} {V : T → AV}
theorem grp {π : List Nat} {N0 M : List AObj} {σ : Nat → Nat} (h : (π.map fun j => M[j]?) = N0.map fun o => some (o.ren σ)) :
    π.length = N0.length ∧ ∀ (k' j : Nat), π[k']? = some j → M[j]? = (N0[k']?).map (AObj.ren σ) := by
  refine ⟨by have := congrArg List.length h; simpa using this, fun k' j hk => ?_⟩
  have h1 : (π.map fun j => M[j]?)[k']? = (N0.map fun o => some (o.ren σ))[k']? := by rw [h]
  rw [List.getElem?_map, List.getElem?_map, hk] at h1
  simp only [Option.map_some] at h1
  cases hN : N0[k']? with
  | none => rw [hN] at h1; simp at h1
  | some o => rw [hN] at h1; simp only [Option.map_some, Option.some.injEq] at h1 ⊢; exact h1
/-- The entry of a number is closed. -/
theorem See.closeI (i : Nat) (k : Int) (x : T) (rows : List (Int × T)) (π : List Nat) {av : AV} (hi : M[i]? = some (.own (ownP key (Value.int kk) fl N V rows (some (.int kk k))) (some (.int kk k, some av)))) (hn : (i :: π).Nodup)
    (hG : (π.map fun j => M[j]?) = (N x).map fun o => some (o.ren (into π (N x).length M.length))) (hav : av = (V x).ren (into π (N x).length M.length)) (hN : ∀ o ∈ N x, o.isRoom = false)
    (hM : (killAll M π).set i (.own (ownP key (Value.int kk) fl N V (setM eqI k x rows) none) none) = M') : See n B ⟨A, M⟩ ⟨A, M'⟩ :=
  See.closeM (keyEq_I kk) i k x rows π hi (List.nodup_cons.1 hn).2 (grp hG).1 (List.nodup_cons.1 hn).1 (grp hG).2 hav hN hM
theorem See.closeS (i : Nat) (k : Int) (x : T) (rows : List (Int × T)) (π : List Nat) {av : AV} (hf : findM eqI k rows = some x) (hi : M[i]? = some (.own (ownP key (Value.int kk) fl N V rows (some (.int kk k))) (some (.int kk k, some av)))) (hn : (i :: π).Nodup)
    (hG : (π.map fun j => M[j]?) = (N x).map fun o => some (o.ren (into π (N x).length M.length))) (hav : av = (V x).ren (into π (N x).length M.length)) (hN : ∀ o ∈ N x, o.isRoom = false)
    (hM : (killAll M π).set i (.own (ownP key (Value.int kk) fl N V rows none) none) = M') : See n B ⟨A, M⟩ ⟨A, M'⟩ :=
  See.closeI i k x rows π hi hn hG hav hN (by rw [setM_found hf]; exact hM)
theorem See.newI (i : Nat) (k : Int) (x : T) (rows : List (Int × T)) (π : List Nat) {av : AV} (hi : M[i]? = some (.own ((ownP key (Value.int kk) fl N V rows none).push (.int kk k)) (some (.int kk k, some av)))) (hn : (i :: π).Nodup)
    (hG : (π.map fun j => M[j]?) = (N x).map fun o => some (o.ren (into π (N x).length M.length))) (hav : av = (V x).ren (into π (N x).length M.length)) (hN : ∀ o ∈ N x, o.isRoom = false)
    (hM : (killAll M π).set i (.own (ownP key (Value.int kk) fl N V (setM eqI k x rows) none) none) = M') : See n B ⟨A, M⟩ ⟨A, M'⟩ :=
  See.newM (keyEq_I kk) i k x rows π hi (List.nodup_cons.1 hn).2 (grp hG).1 (List.nodup_cons.1 hn).1 (grp hG).2 hav hN hM
theorem See.openI (i : Nat) (k : Int) (x : T) (rows : List (Int × T)) (hf : findM eqI k rows = some x) (hi : M[i]? = some (.own (ownP key (Value.int kk) fl N V rows none) none))
    (hM : M.set i (.own (ownP key (Value.int kk) fl N V rows (some (.int kk k))) (some (.int kk k, some ((V x).ren (· + M.length))))) ++ (N x).map (AObj.ren (· + M.length)) = M') : See n B ⟨A, M⟩ ⟨A, M'⟩ :=
  See.openM (keyEq_I kk) i k x rows hf hi hM
theorem See.missI (i : Nat) (k : Int) (rows : List (Int × T)) (hf : findM eqI k rows = none) (hi : M[i]? = some (.own (ownP key (Value.int kk) fl N V rows none) none))
    (hM : M.set i (.own (ownP key (Value.int kk) fl N V rows none) (some (.int kk k, none))) = M') : See n B ⟨A, M⟩ ⟨A, M'⟩ :=
  See.missM (keyEq_I kk) i k rows hf hi hM
theorem See.struckI (i : Nat) (k : Int) (rows : List (Int × T)) (hi : M[i]? = some (.own ((ownP key (Value.int kk) fl N V rows (some (.int kk k))).del (.int kk k)) (some (.int kk k, none))))
    (hM : M.set i (.own (ownP key (Value.int kk) fl N V (delM eqI k rows) none) none) = M') : See n B ⟨A, M⟩ ⟨A, M'⟩ :=
  See.struckM (keyEq_I kk) i k rows hi hM
end
/-- The keys are numbers of this kind. -/
def intKey (k : IntKind) (v : Value) : Prop := keyOk (.int k) v = true
@[simp] theorem intKey_int (k : IntKind) (x : Int) : intKey k (.int k x) ↔ True := by simp [intKey]
@[simp] theorem ownKey_ownP {T : Type} {k : IntKind} (kE : Int → Value) (fl : T → AV) (N : T → List AObj) (V : T → AV) (rows : List (Int × T)) (hole : Option Value) : OwnKey (.int k) (ownP (intKey k) kE fl N V rows hole) ↔ True :=
  ⟨fun _ => trivial, fun _ _x hx => hx⟩
@[simp] theorem ownKey_push {kt : TyK} {P : Own} {k : Value} : OwnKey kt (P.push k) ↔ OwnKey kt P := .rfl
@[simp] theorem ownKey_del {kt : TyK} {P : Own} {k : Value} : OwnKey kt (P.del k) ↔ OwnKey kt P := .rfl
@[simp] theorem key_ownP {K T : Type} (key : Value → Prop) (kE : K → Value) (fl : T → AV) (N : T → List AObj) (V : T → AV) (rows : List (K × T)) (hole : Option Value) : (ownP key kE fl N V rows hole).key = key := rfl
@[simp] theorem data_ownP {T : Type} (key : Value → Prop) (kk : IntKind) (fl : T → AV) (N : T → List AObj) (V : T → AV) (rows : List (Int × T)) (hole : Option Value) : (ownP key (Value.int kk) fl N V rows hole).data = encM (kI kk) fl rows := rfl
attribute [simp] AObj.isRoom

/-! ### An array: the mark ahead of it, and its end -/
theorem See.markA {n B : Nat} {A : Env} {M M' : List AObj} (hM : M ++ [.arr 0 []] = M') : See n B ⟨A, M⟩ ⟨A, M'⟩ := by
  subst hM
  refine View.see ?_
  rintro g rfl sm
  exact ⟨_, _, sim_mark (z := 0) (b := 0) sm, keep_mark⟩

def frzO (i : Nat) (els : List (List AV)) : AObj → AObj
  | .blk cs => .blk (cs.map (lendA i els))
  | o => o
def frzE (i : Nat) (els : List (List AV)) (A : Env) : Env := A.map fun e => ⟨e.t, e.tag, lendB i els e.av⟩
def frzOk (i s : Nat) (els : List (List AV)) : List AObj → Prop
  | [] => True
  | .blk cs :: r => lendO i s els cs ∧ frzOk i s els r
  | _ :: r => frzOk i s els r
theorem lendO_get {i s : Nat} {els : List (List AV)} : ∀ {cs : List AV}, lendO i s els cs → ∀ j (hj : j < cs.length), ∀ k n z, cs[j] = .asl k n z → k = i → z = s ∧ n = lenL els
  | [], _, j, hj, _, _, _, _, _ => by simp at hj
  | c :: cs, ho, j, hj, k, n, z, he, hk => by
    cases j with
    | zero =>
      simp only [List.getElem_cons_zero] at he
      subst he
      exact ho.1 hk
    | succ j =>
      refine lendO_get (cs := cs) ?_ j (by simpa using hj) k n z (by simpa using he) hk
      cases c <;> first | exact ho.2 | exact ho
theorem frzOk_get {i s : Nat} {els : List (List AV)} : ∀ {M : List AObj}, frzOk i s els M → ∀ cs, AObj.blk cs ∈ M → lendO i s els cs
  | [], _, _, h => by cases h
  | o :: r, ho, cs, h => by
    rcases List.mem_cons.1 h with rfl | h
    · exact ho.1
    · refine frzOk_get (M := r) ?_ cs h
      cases o <;> first | exact ho.2 | exact ho
theorem lendP_mem {i s : Nat} {els : List (List AV)} : ∀ {l : List AV}, lendP i s els l → ∀ a ∈ l, (∀ cs, a = .agg cs → lendO i s els cs) ∧ ∀ k n z, a = .asl k n z → k = i → z = s ∧ n = lenL els
  | [], _, a, h => by cases h
  | c :: r, ho, a, h => by
    rcases List.mem_cons.1 h with rfl | h
    · refine ⟨fun cs e => by subst e; exact ho.1, fun k n z e hk => by subst e; exact ho.1 hk⟩
    · refine lendP_mem (l := r) ?_ a h
      cases c <;> first | exact ho.2 | exact ho

/-- The array is written no more: it is a slice as others are. -/
theorem See.freeze {n B : Nat} {A : Env} {M : List AObj} (i : Nat) {s : Nat} {els : List (List AV)} {σ' : St} (hM : M[i]? = some (.arr s els)) (hA : lendP i s els (A.map Ent.av)) (hO : frzOk i s els M)
    (hs : (⟨frzE i els A, (M.set i .dead).map (frzO i els)⟩ : St) = σ') : See n B ⟨A, M⟩ σ' := by
  subst hs
  rintro g0 g a ⟨b1, b2, b3, b4, sm, b6, b7, b8⟩
  simp only at b4
  subst b4
  have hwm : WMem g.M (g.M.set i .dead) := WMem.toSet hM (.dead _)
  let g1 : G := ⟨g.M.set i .dead, g.β, g.ρ, g.w, g.X⟩
  have s1 : Sim g1 := sm.wmem hwm
  have hr1 : ∀ a, g1.reg a → g.reg a := fun a h => by
    rcases h with h | ⟨j, o', hj, hc⟩
    · exact .inl h
    · obtain ⟨o, ho, hw⟩ := hwm.get hj
      exact reg_of ho (hw.covers hc)
  have hno : els ≠ [] → ∀ a, g1.reg a → a.block ≠ g.β i := fun hne a h hb => by
    have hc : (AObj.arr s els).covers (g.β i) (g.ρ i) a := ⟨hne, hb⟩
    rcases h with h | ⟨j, o', hj, hcj⟩
    · exact sm.xdis a h ⟨i, _, hM, hc⟩
    · rcases put_get hj with ⟨q1, q2⟩ | ⟨_, q2⟩
      · exact q1 (sm.disj j i o' _ a q2 hM hcj hc)
      · subst q2; exact hcj.elim
  -- the values
  have one : ∀ {a : AV} {v : Value}, R g a v → (∀ j n z, a = .asl j n z → j = i → z = s ∧ n = lenL els) → R g1 (lendA i els a) v := fun {a v} q ho => by
    cases a with
    | asl j n z =>
      by_cases hj : j = i
      · have e : lendA i els (.asl j n z) = .sl els .no := by simp [lendA, hj]
        rw [e]
        obtain ⟨hz, hn⟩ := ho j n z rfl hj
        cases q with
        | asl _ _ _ m cap ad _ hm hc hz' ha =>
        subst hj
        have hlen : els.length = m := by unfold lenL at hn; omega
        subst hlen
        by_cases hne : els = []
        · subst hne
          rcases hz' with rfl | ⟨b, off, rfl⟩
          · exact .nil _ trivial
          · exact .sl [] .no b off 0 cap (fun _ _ => undef) (by simp) (by simp) (by simp) (by simp) (by simp) trivial hc
        · have := ha (List.length_pos_iff.2 hne)
          subst this
          obtain ⟨xs, T, h1, h2, h3⟩ := sm.arr j s els hM hne
          have key : ∀ p q (hp : p < els.length) (hq : q < s), p * s + q < xs.size ∧ R g (els[p][q]'(by rw [h2 _ (List.getElem_mem hp)]; exact hq)) (xs.getD (p * s + q) undef) ∧ (xs.getD (p * s + q) undef).oneCell' = true := fun p q hp hq =>
            h3 p q els[p] _ (List.getElem?_eq_getElem hp) (List.getElem?_eq_getElem _)
          refine .sl els .no _ 0 s cap (fun p q => xs.getD (p * s + q) undef) (fun p hp => h2 _ (List.getElem_mem hp)) (fun p q hp hq => ?_) (fun p q hp hq hr => hno hne _ hr rfl) (fun p q hp hq => ?_) (fun p q hp hq => (key p q hp hq).2.2) trivial hc
          · have := (key p q hp hq).1
            simp [g1, World.cell?, h1, Array.getD, this]
          · have hq' : q < s := by rw [← h2 _ (List.getElem_mem hp)]; exact hq
            exact (key p q hp hq').2.1.wmem hwm
      · have e : lendA i els (.asl j n z) = .asl j n z := by simp [lendA, hj]
        rw [e]; exact q.wmem hwm
    | _ => exact q.wmem hwm
  have two : ∀ {a : AV} {v : Value}, R g a v → (∀ cs, a = .agg cs → lendO i s els cs) → (∀ j n z, a = .asl j n z → j = i → z = s ∧ n = lenL els) → R g1 (lendB i els a) v := fun {a v} q ho1 ho2 => by
    cases a with
    | agg cs =>
      cases q with
      | agg _ xs hs hx h4 =>
        refine .agg _ xs (by simpa using hs) (fun j hj => ?_) (fun j hj => h4 j (by simpa using hj))
        have hj' : j < cs.length := by simpa using hj
        simp only [List.getElem_map]
        exact one (hx j hj') fun k n z he hk => lendO_get (ho1 cs rfl) j hj' k n z he hk
    | asl j n z => exact one q ho2
    | _ => exact one q fun j' n' z' he => by cases he
  -- the memory
  let M2 := (g.M.set i .dead).map (frzO i els)
  let g2 : G := ⟨M2, g.β, g.ρ, g.w, g.X⟩
  have hget : ∀ {j : Nat} {o : AObj}, M2[j]? = some o → ∃ o', (g.M.set i .dead)[j]? = some o' ∧ o = frzO i els o' := fun {j o} h => by
    rw [List.getElem?_map] at h
    obtain ⟨o', h1, h2⟩ := Option.map_eq_some_iff.1 h
    exact ⟨o', h1, h2.symm⟩
  have hcov : ∀ {o : AObj} {b : Nat} {r : Room} {a : Addr}, (frzO i els o).covers b r a ↔ o.covers b r a := fun {o b r a} => by cases o <;> exact Iff.rfl
  have hreg2 : ∀ a, g2.reg a ↔ g1.reg a := fun a => by
    constructor
    · rintro (h | ⟨j, o, hj, hc⟩)
      · exact .inl h
      · obtain ⟨o', h1, rfl⟩ := hget hj
        exact .inr ⟨j, o', h1, hcov.1 hc⟩
    · rintro (h | ⟨j, o, hj, hc⟩)
      · exact .inl h
      · refine .inr ⟨j, frzO i els o, ?_, hcov.2 hc⟩
        show ((g.M.set i .dead).map (frzO i els))[j]? = _
        have hj' : (g.M.set i .dead)[j]? = some o := hj
        rw [List.getElem?_map, hj']; rfl
  have k12 : Keep0 g1 g2 := by
    refine ⟨by simp [g1, g2, M2], fun _ _ => rfl, fun t ht e he => ?_, Nat.le_refl _, fun _ _ h _ => h, fun a _ h q => h ((hreg2 a).1 q), fun _ _ _ => rfl, ⟨rfl, rfl⟩⟩
    obtain ⟨o', h1, h2⟩ := hget he
    cases o' <;> simp only [frzO, reduceCtorEq, AObj.room.injEq] at h2
    subst h2
    exact ⟨_, h1, Nat.le_refl _, fun _ => rfl⟩
  have hin2 : ∀ a, g2.reg a → a.block < g2.w.heap.size := fun a h => s1.inb a ((hreg2 a).1 h)
  have s2 : Sim g2 := by
    refine ⟨Facts.less (g := g1) rfl (fun a h => (hreg2 a).1 h) s1.fct, fun j cells hj => ?_, fun j t pos hj => ?_, fun t e ht => ?_, fun j j' oj oj' a hj hj' hcj hcj' => ?_, hin2, fun a ha => ?_, fun j es hj => ?_, fun j es vis cur t hj => ?_, fun j φ hj => ?_, fun j P cur hj => ?_, fun j z es hj => ?_⟩
    · obtain ⟨o', h1, h2⟩ := hget hj
      cases o' <;> simp only [frzO, reduceCtorEq, AObj.blk.injEq] at h2
      rename_i cs
      subst h2
      obtain ⟨q1, q2⟩ | ⟨_, q2⟩ := put_get h1
      · obtain ⟨xs, T, r1, r2, r3, r4⟩ := sm.blk j cs q2
        refine ⟨xs, T, r1, by simpa using r2, fun k hk => ?_, fun k hk => r4 k (by simpa using hk)⟩
        have hk' : k < cs.length := by simpa using hk
        simp only [List.getElem_map]
        exact (one (r3 k hk') fun k' n z he hkk => lendO_get (frzOk_get hO cs (List.mem_of_getElem? q2)) k hk' k' n z he hkk).keep0 k12
      · cases q2
    · obtain ⟨o', h1, h2⟩ := hget hj
      cases o' <;> simp only [frzO, reduceCtorEq, AObj.iter.injEq] at h2
      obtain ⟨rfl, rfl⟩ := h2
      exact s1.iter j _ _ h1
    · obtain ⟨o', h1, h2⟩ := hget ht
      cases o' <;> simp only [frzO, reduceCtorEq, AObj.room.injEq] at h2
      subst h2
      exact s1.room t _ h1
    · obtain ⟨o1, h1, rfl⟩ := hget hj
      obtain ⟨o2, h2, rfl⟩ := hget hj'
      exact s1.disj j j' o1 o2 a h1 h2 (hcov.1 hcj) (hcov.1 hcj')
    · rintro ⟨j, o, hj, hc⟩
      obtain ⟨o1, h1, rfl⟩ := hget hj
      exact s1.xdis a ha ⟨j, o1, h1, hcov.1 hc⟩
    · obtain ⟨o', h1, h2⟩ := hget hj
      cases o' <;> simp only [frzO, reduceCtorEq, AObj.mapo.injEq] at h2
      subst h2
      obtain ⟨o, q1, q2⟩ := s1.mapo j _ h1
      exact ⟨o, q1, q2.keep0 k12⟩
    · obtain ⟨o', h1, h2⟩ := hget hj
      cases o' <;> simp only [frzO, reduceCtorEq, AObj.mapr.injEq] at h2
      obtain ⟨rfl, rfl, rfl, rfl⟩ := h2
      obtain ⟨t1, t2, o, oi, q1, q2, q3⟩ := s1.mapr j _ _ _ _ h1
      exact ⟨Nat.lt_of_lt_of_le t1 k12.len, t2, o, oi, q1, q2, q3.keep0 k12⟩
    · obtain ⟨o', h1, h2⟩ := hget hj
      cases o' <;> simp only [frzO, reduceCtorEq, AObj.opq.injEq] at h2
      subst h2
      exact s1.opq j _ h1
    · obtain ⟨o', h1, h2⟩ := hget hj
      cases o' <;> simp only [frzO, reduceCtorEq, AObj.own.injEq] at h2
      obtain ⟨rfl, rfl⟩ := h2
      exact s1.ownKeep k12 hin2 h1 hj rfl rfl fun _ _ => rfl
    · obtain ⟨o', h1, h2⟩ := hget hj
      cases o' <;> simp only [frzO, reduceCtorEq, AObj.arr.injEq] at h2
      obtain ⟨rfl, rfl⟩ := h2
      exact (s1.arr j _ _ h1).keep0 k12 fun _ => rfl
  have kg : Keep g g2 := by
    have hr2 : ∀ a, g2.reg a → g.reg a := fun a h => hr1 a ((hreg2 a).1 h)
    refine ⟨⟨by simp [g2, M2], fun _ _ => rfl, fun t ht e he => ?_, Nat.le_refl _, fun _ _ h _ => h, fun a _ h q => h (hr2 a q), fun _ _ _ => rfl, ⟨rfl, rfl⟩⟩, fun _ h => h, fun _ _ _ => ⟨rfl, rfl⟩, fun _ _ _ => rfl⟩
    obtain ⟨o', h1, h2⟩ := hget he
    cases o' <;> simp only [frzO, reduceCtorEq, AObj.room.injEq] at h2
    subst h2
    rcases put_get h1 with ⟨_, q2⟩ | ⟨_, q2⟩
    · exact ⟨_, q2, Nat.le_refl _, fun _ => rfl⟩
    · cases q2
  refine ⟨g2, rfl, b1, b2, b3.trans kg, rfl, s2, fun t tag av he => ?_, b7, b8⟩
  have hent : ∀ {A : Env}, ent (frzE i els A) t = (ent A t).map fun p => (p.1, lendB i els p.2) := fun {A} => by
    induction A with
    | nil => rfl
    | cons e r ih =>
      show (if e.t = t then some (e.tag, lendB i els e.av) else ent (frzE i els r) t) = (if e.t = t then some (e.tag, e.av) else ent r t).map fun p => (p.1, lendB i els p.2)
      by_cases h : e.t = t
      · rw [if_pos h, if_pos h]; rfl
      · rw [if_neg h, if_neg h]; exact ih
  rw [hent] at he
  obtain ⟨⟨tag', av'⟩, he1, he2⟩ := Option.map_eq_some_iff.1 he
  simp only [Prod.mk.injEq] at he2
  obtain ⟨rfl, rfl⟩ := he2
  have hmem : av' ∈ A.map Ent.av := List.mem_map.2 ⟨_, ent_mem he1, rfl⟩
  obtain ⟨m1, m2⟩ := lendP_mem hA av' hmem
  have q := b6 t tag' av' he1
  have hRR : R g av' (a.tmps.getD t undef) → R g2 (lendB i els av') (a.tmps.getD t undef) := fun q => (two q m1 m2).keep0 k12
  rw [tagRel_eq] at q ⊢
  cases tag' with
  | none => exact hRR q
  | some τ => exact ⟨fun h => hRR (q.1 h), q.2⟩
attribute [simp] frzO frzE frzOk
end Go.Ab

/- From a contract at an empty memory to the form in which a row wants a call: nothing that was there has turned. No condition. -/
import Derived.Test.YtjjjeolcapebbaaGreatDoorM10
import Derived.ProofKit
import Derived.OpenShut
import Derived.ChangeStays
import Derived.ReadAgain
namespace Go.Ab
open Go.ChangeShapes Go.WideShapes Go.ChangeAt Go.RowKit

/-- The world w' has what w had, avl it was, and more behind it. -/
structure Past (w w' : World) : Prop where
  kept : w.keptBut w' (fun _ => False)
  frozen : ∀ a : Addr, a.block < w.heap.size → w'.frozen? a = w.frozen? a
  size : w.heap.size ≤ w'.heap.size
  blocks : ∀ b, b < w.heap.size → w'.heap[b]? = w.heap[b]?

def g0 (w : World) : G := ⟨[], fun _ => 0, fun _ => ⟨0, 0, 0, nobs⟩, w, fun _ => False⟩
theorem no_reg0 (w : World) (a : Addr) : ¬ (g0 w).reg a := fun h => by
  rcases h with h | ⟨i, o, h, _⟩
  · exact h
  · simp [g0] at h
theorem sim0 (w : World) (hF : ∀ w' : World, (∀ b, b < w.heap.size → w'.heap[b]? = w.heap[b]?) → fctF w') : Sim (g0 w) where
  fct := ⟨fun b => b < w.heap.size, fun b hb => ⟨hb, fun _ => no_reg0 w _⟩, hF⟩
  blk i cells h := by simp [g0] at h
  iter i s p h := by simp [g0] at h
  room t e h := by simp [g0] at h
  disj i j oi oj a h := by simp [g0] at h
  inb a h := absurd h (no_reg0 w a)
  xdis a h := h.elim
  mapo i es h := by simp [g0] at h
  mapr i es vis cur t h := by simp [g0] at h
  opq i φ h := by simp [g0] at h
  own i P cur h := by simp [g0] at h
  arr i s els h := by simp [g0] at h

theorem past_of_keep {w : World} {g' : G} (k : Keep (g0 w) g') : Past w g'.w where
  kept := by
    refine ⟨k.io.1, k.io.2, fun i hi => ?_⟩
    have h := k.blocks i hi fun off => no_reg0 w _
    rw [h]
    simp only [g0]
    split
    · rename_i c t fr c' t' fr' h1 h2
      rw [h1] at h2; cases h2
      exact ⟨rfl, rfl, rfl, fun _ _ => rfl⟩
    · rename_i es clock es' clock' h1 h2
      rw [h1] at h2; cases h2
      exact .inr ⟨rfl, rfl⟩
    · rfl
  frozen a ha := by
    have h := k.blocks a.block ha fun off => no_reg0 w _
    simp only [World.frozen?, h]
    rfl
  size := k.size
  blocks b hb := k.blocks b hb fun off => no_reg0 w _

/-- The walk of a law: off its contract. -/
theorem walk_of_call {P : Program} {f : FuncId} {l : List AV} {vs : List Value} {w : World} {o : Prop} (h : CallOk P f l [] { av := .lit (.bool true), obl := o }) (hr : RL (g0 w) l vs) (ho : o) (hF : ∀ w' : World, (∀ b, b < w.heap.size → w'.heap[b]? = w.heap[b]?) → fctF w') :
    Calls P f vs.toArray w fun e w' => e = .returned (.bool true) ∧ Past w w' := by
  obtain ⟨_, c⟩ := h (g0 w) vs rfl (sim0 w hF) hr ho
  refine c.mono fun e w' => ?_
  rintro ⟨v, rfl, β, ρ, _, r, k⟩
  cases r
  exact ⟨rfl, past_of_keep k⟩

variable {H : Type} {enc : TypeId × Value → H} {P : Program}

theorem post_of_past {f : Func} {s : ChangeSpec} {apart fresh handsOn again : Bool} {W W' : World} {args : Array Value} {v : Value} {ds gs : List (DataW H)} {before pa pv : List MemPlace}
    (hW : DataW.Whole enc P f.params.toList s.vars apart W args.toList ds gs before)
    (hres : ∀ (b : Nat) (sp : Nat → Bool) (hd : Bool), DataW.TrodAll enc P W' b sp hd f.resultTypes.toList (v.resultList f.resultTypes.size) (s.fn H (ds ++ gs)).results [])
    (hargs : ∀ sp : Nat → Bool, (∀ p ∈ before, sp p.block = true) → DataW.TrodAll enc P W' 0 sp true f.params.toList args.toList (s.fn H (ds ++ gs)).args pa)
    (hvars : ∀ sp : Nat → Bool, (∀ p ∈ before, sp p.block = true) → DataW.TrodVars enc P W' sp s.vars (s.fn H (ds ++ gs)).vars pv)
    (hps : before = pa ++ pv) (hk : Past W W')
    (hok : ∀ (j : Nat) (t : TypeId) (r : Value), f.resultTypes[j]? = some t → (v.resultList f.resultTypes.size)[j]? = some r → Value.okWide P W' .any 0 t r) :
    s.post enc P f apart fresh handsOn again W args v W' := by
  have hlt := hW.lt
  have hold : ∀ p ∈ before, (fun b => decide (b < W.heap.size)) p.block = true := fun p hp => by simpa using hlt p hp
  refine ⟨ds, gs, before, [], pa, pv, hW, hres _ _ _, hargs _ hold, hvars _ hold, World.keptBut_mono (fun p hp => hp.elim) hk.kept, fun _ => ?_⟩
  obtain ⟨_, _, _, _, _, hz, hn⟩ := hW
  refine ⟨hok, _, _, ([] ++ pa) ++ pv, ⟨[] ++ pa, pv, trodAll_append (hargs _ (fun _ _ => rfl)) (hres _ _ _), hvars _ (fun _ _ => rfl), rfl, ?_, ?_⟩, ?_⟩
  · intro b off hp
    have hp' : MemPlace.cell b off ∈ before := by rw [hps]; simpa using hp
    rw [hk.frozen _ (hlt _ hp')]
    exact hz b off hp'
  · intro ha
    have := hn ha
    rw [hps] at this
    simpa using this
  · intro p hp _
    rw [hps]
    simpa using hp

/-! ### What a reading says of a value, avl an abstract value -/
/-- The shape of a row of cells of a type, avl abstract values. -/
def Sh (P : Program) : Nat → TypeId → List AV → Prop
  | 0, _, _ => False
  | n + 1, t, avs => match P.underlying t with
    | some .bool => ∃ b, avs = [.lit (.bool b)]
    | some (.int k) => ∃ m, avs = [.lit (.int k m)] ∧ (Lit.int k m).wf = true
    | some .string => ∃ s, avs = [.lit (.string s)] ∧ s.size ≤ maxLen
    | some (.struct fs) => ∃ parts : List (List AV), parts.length = fs.size ∧ avs = parts.flatten ∧ ∀ (j : Nat) f, fs[j]? = some f → ∃ q, parts[j]? = some q ∧ Sh P n f.type q
    | _ => False

def ShE (P : Program) (t : TypeId) (q : List AV) : Prop := ∃ n, Sh P n t q

/-- The types of the list are plain: no pointer, no slice in them. -/
def flatB (P : Program) (l : List TypeId) : Bool := l.all fun t => decide (t < P.types.size) && match P.underlying t with
  | some .bool | some (.int _) | some .string => true
  | some (.struct fs) => fs.toList.all fun f => l.contains f.type
  | _ => false

theorem split_by {α : Type} : ∀ (ss : List Nat) (cs : List α), cs.length = ss.sum →
    ∃ parts : List (List α), parts.length = ss.length ∧ cs = parts.flatten ∧ ∀ (j : Nat) s, ss[j]? = some s → parts[j]? = some ((cs.drop (ss.take j).sum).take s)
  | [], cs, h => ⟨[], rfl, by simpa using h, by simp⟩
  | s :: ss, cs, h => by
    obtain ⟨ps, h1, h2, h3⟩ := split_by ss (cs.drop s) (by simp at h ⊢; omega)
    refine ⟨cs.take s :: ps, by simp [h1], by simp [← h2], fun j t hj => ?_⟩
    cases j with
    | zero => simp at hj ⊢; rw [hj]
    | succ j =>
      simp at hj
      simp [h3 j t hj, List.drop_drop]

section
variable {w : World} {base : Nat} {sp : Nat → Bool} {held : Bool}

theorem rel_flat (K : Kids P (· < P.types.size)) {l : List TypeId} (hl : flatB P l = true) : ∀ (n : Nat) (t : TypeId) (cs : List Value) (x : DataW H × List MemPlace), t ∈ l →
    DataW.trod enc P w base sp held n t cs = some x → Sh P n t (cs.map .lit) ∧ ∀ v ∈ cs, v.oneCell' = true := by
  intro n
  induction n with
  | zero => intro t cs x _ h; simp [DataW.trod] at h
  | succ n ih =>
    intro t cs x ht h
    have hk := List.all_eq_true.1 hl t ht
    simp only [Bool.and_eq_true, decide_eq_true_eq] at hk
    obtain ⟨hsz, hk⟩ := hk
    unfold Sh
    split at hk
    · rename_i hu
      obtain ⟨b, rfl, _⟩ := DataW.trod_bool hu h
      exact ⟨⟨b, rfl⟩, by simp⟩
    · rename_i k hu
      obtain ⟨b, rfl, _, hw⟩ := DataW.trod_int hu h
      exact ⟨⟨b, rfl, hw⟩, by simp⟩
    · rename_i hu
      obtain ⟨b, rfl, _, hw⟩ := DataW.trod_string hu h
      exact ⟨⟨b, rfl, hw⟩, by simp⟩
    · rename_i fs hu
      obtain ⟨xs, m, hm, _, hcl, hxl, hf⟩ := DataW.trod_struct hu h
      cases hm
      obtain ⟨_, hs2, hs3⟩ := K.struct hsz hu
      obtain ⟨parts, p1, p2, p3⟩ := split_by (fs.toList.map fun f => P.cellsOf f.type) cs (by rw [hcl, hs2])
      have hpart : ∀ (j : Nat) f, fs[j]? = some f → ∃ q, parts[j]? = some q ∧ Sh P n f.type (q.map .lit) ∧ ∀ v ∈ q, v.oneCell' = true := fun j f hj => by
        have hj' : fs.toList[j]? = some f := by simpa using hj
        have e := p3 j (P.cellsOf f.type) (by simp [hj'])
        have ho := hs3 j f hj'
        rw [← List.map_take, ← ho] at e
        have hx := hf j f hj
        have hlt : j < xs.length := by
          have := lt_of_some hj'
          rw [hxl]; simpa using this
        rw [List.getElem?_eq_getElem hlt] at hx
        have hmem : f.type ∈ l := by
          have := List.all_eq_true.1 hk f (List.mem_of_getElem? hj')
          simpa using this
        exact ⟨_, e, ih _ _ _ hmem hx⟩
      refine ⟨⟨parts.map (·.map .lit), by simpa using p1, ?_, fun j f hj => ?_⟩, fun v hv => ?_⟩
      · rw [p2, List.map_flatten]
      · obtain ⟨q, h1, h2, _⟩ := hpart j f hj
        exact ⟨_, by simp [h1], h2⟩
      · rw [p2] at hv
        obtain ⟨q, hq, hv⟩ := List.mem_flatten.1 hv
        obtain ⟨j, hj, rfl⟩ := List.getElem_of_mem hq
        have hjf : j < fs.size := by rw [p1] at hj; simpa using hj
        obtain ⟨q', h1, _, h3⟩ := hpart j fs[j] (by simp [hjf])
        rw [List.getElem?_eq_getElem hj] at h1
        cases h1
        exact h3 v hv
    · cases hk

theorem cells_get {a : Addr} {n : Nat} {cs : List Value} (h : w.cells? base a n = some cs) : cs.length = n ∧ ∀ j (hj : j < cs.length), w.cell? (a.add j) = some cs[j] := by
  unfold World.cells? at h
  split at h
  · have hl : cs.length = n := by simpa using mapM_some_length h
    refine ⟨hl, fun j hj => ?_⟩
    have := mapM_some_get h j j (by rw [List.getElem?_range (by omega)])
    rw [this]; simp [hj]
  · cases h

/-- A value that a statement may be called with: its shape. -/
def ShV (P : Program) (t : TypeId) (av : AV) : Prop := match P.underlying t with
  | some (.slice e) => ∃ els, av = .sl els .no ∧ (∀ q ∈ els, ShE P e q) ∧ els.length ≤ maxLen
  | some (.struct _) => ∃ avs, av = .agg avs ∧ ShE P t avs
  | _ => ShE P t [av]

theorem R.lits {g : G} (vs : List Value) (h : ∀ v ∈ vs, v.oneCell' = true) : R g (.agg (vs.map .lit)) (.agg vs.toArray) := by
  refine .agg _ _ (by simp) (fun j hj => ?_) (fun j hj => ?_)
  · have hj' : j < vs.length := by simpa using hj
    have : vs.toArray.getD j undef = vs[j] := by simp [Array.getD, hj']
    rw [this, List.getElem_map]
    exact .lit _
  · have hj' : j < vs.length := by simpa using hj
    have : vs.toArray.getD j undef = vs[j] := by simp [Array.getD, hj']
    rw [this]
    exact h _ (List.getElem_mem _)

theorem rel_param (K : Kids P (· < P.types.size)) {l : List TypeId} (hl : flatB P l = true) {t : TypeId} {v : Value} {d : DataW H} {ps : List MemPlace} {b : Nat}
    (ht : t ∈ l ∨ ∃ e, P.underlying t = some (.slice e) ∧ e ∈ l)
    (hv : Value.okWide P w .any b t v) (h : DataW.Trod enc P w 0 (fun _ => true) true t v d ps) : ∃ av, R (g0 w) av v ∧ ShV P t av := by
  obtain ⟨n, h⟩ := h
  rcases ht with ht | ⟨e, hu, he⟩
  · have hk := List.all_eq_true.1 hl t ht
    simp only [Bool.and_eq_true, decide_eq_true_eq] at hk
    obtain ⟨hsz, hk⟩ := hk
    obtain ⟨r1, r2⟩ := rel_flat K hl n t _ _ ht h
    unfold ShV
    unfold Value.okWide at hv
    split at hk
    · rename_i hu
      rw [hu] at hv ⊢
      simp only [Cell.okWide, Cell.ok, hu] at hv
      cases v <;> simp at hv
      exact ⟨_, .lit _, n, r1⟩
    · rename_i hu
      rw [hu] at hv ⊢
      simp only [Cell.okWide, Cell.ok, hu] at hv
      cases v <;> simp at hv
      exact ⟨_, .lit _, n, r1⟩
    · rename_i hu
      rw [hu] at hv ⊢
      simp only [Cell.okWide, Cell.ok, hu] at hv
      cases v <;> simp at hv
      exact ⟨_, .lit _, n, r1⟩
    · rename_i fs hu
      rw [hu] at hv ⊢
      obtain ⟨cs, rfl, _⟩ := hv
      refine ⟨.agg (cs.toList.map .lit), ?_, _, rfl, n, r1⟩
      exact R.lits (g := g0 w) cs.toList r2
    · cases hk
  · unfold ShV
    rw [hu]
    unfold Value.okWide at hv
    rw [hu] at hv
    simp only [Cell.okWide, Cell.ok, hu] at hv
    rcases DataW.trod_slice hu h with ⟨hc, _⟩ | ⟨a, len, cap, elems, rest, m, rfl, hc, _, _, hlc, hcap, hel, hget, _, _⟩
    · have : v = .slice none 0 0 := by
        cases v <;> simp [Value.cells] at hc hv ⊢ <;> simp_all
      subst this
      exact ⟨.sl [] .no, .nil _ trivial, [], rfl, by simp, by simp [maxLen]⟩
    · have : v = .slice (some a) len cap := by
        cases v <;> simp [Value.cells] at hc hv ⊢ <;> simp_all
      subst this
      simp only at hv
      have hspot : a.spot = none := hv.2.2.2.1
      obtain ⟨ab, ao, asp⟩ := a
      simp only at hspot
      subst hspot
      have hrow : ∀ i (hi : i < len), ∃ cs, w.cells? 0 (Addr.add ⟨ab, ao, none⟩ (i * P.cellsOf e)) (P.cellsOf e) = some cs ∧ Sh P m e (cs.map .lit) ∧ ∀ v ∈ cs, v.oneCell' = true := fun i hi => by
        have := hget i hi
        rw [List.getElem?_eq_getElem (by omega)] at this
        obtain ⟨cs, h1, h2⟩ := Option.bind_eq_some_iff.1 this
        exact ⟨cs, h1, rel_flat K hl m e _ _ he h2⟩
      let row (i : Nat) : List Value := (w.cells? 0 (Addr.add ⟨ab, ao, none⟩ (i * P.cellsOf e)) (P.cellsOf e)).getD []
      have hr : ∀ i, i < len → (row i).length = P.cellsOf e ∧ (∀ j (hj : j < (row i).length), w.cell? ⟨ab, ao + i * P.cellsOf e + j, none⟩ = some (row i)[j]) ∧ Sh P m e ((row i).map .lit) ∧ ∀ v ∈ row i, v.oneCell' = true := fun i hi => by
        obtain ⟨cs, h1, h2, h3⟩ := hrow i hi
        have e1 : row i = cs := by simp only [row, h1, Option.getD_some]
        obtain ⟨q1, q2⟩ := cells_get h1
        rw [e1]
        refine ⟨q1, fun j hj => ?_, h2, h3⟩
        rw [← q2 j hj]
        congr 1
        have ha : ∀ (x y : Nat), Addr.add ⟨ab, x, none⟩ y = ⟨ab, x + y, none⟩ := fun x y => by
          unfold Addr.add; split
          · rename_i h0; subst h0; rfl
          · rfl
        rw [ha, ha]
      refine ⟨.sl ((List.range len).map fun i => (row i).map .lit) .no, ?_, _, rfl, fun q hq => ?_, by simp; omega⟩
      · have hlen : ((List.range len).map fun i => (row i).map AV.lit).length = len := by simp
        have := R.sl (g := g0 w) ((List.range len).map fun i => (row i).map .lit) .no ab ao (P.cellsOf e) cap (fun i j => (row i).getD j undef)
          (fun i hi => by simp at hi ⊢; exact (hr i hi).1)
          (fun i j hi hj => by
            have hi' : i < len := by simpa using hi
            obtain ⟨h1, h2, _⟩ := hr i hi'
            rw [List.getD_eq_getElem?_getD, List.getElem?_eq_getElem (by omega)]
            exact h2 j (by omega))
          (fun i j _ _ => no_reg0 w _)
          (fun i j hi hj => by
            simp at hi hj ⊢
            rw [List.getElem?_eq_getElem hj]
            exact .lit _)
          (fun i j hi hj => by
            have hi' : i < len := by simpa using hi
            obtain ⟨h1, _, _, h4⟩ := hr i hi'
            rw [List.getD_eq_getElem?_getD, List.getElem?_eq_getElem (by omega)]
            exact h4 _ (List.getElem_mem _))
          trivial (by simpa using hlc)
        rwa [hlen] at this
      · obtain ⟨i, hi, rfl⟩ := List.mem_map.1 hq
        exact ⟨m, (hr i (by simpa using hi)).2.2.1⟩

def ShAll (P : Program) : List TypeId → List AV → Prop
  | [], [] => True
  | t :: ts, a :: avl => ShV P t a ∧ ShAll P ts avl
  | _, _ => False

theorem rel_params (K : Kids P (· < P.types.size)) {l : List TypeId} (hl : flatB P l = true) {b : Nat} : ∀ {ts : List TypeId} {vs : List Value} {ds : List (DataW H)} {ps : List MemPlace},
    (∀ t ∈ ts, t ∈ l ∨ ∃ e, P.underlying t = some (.slice e) ∧ e ∈ l) → (∀ (j : Nat) t v, ts[j]? = some t → vs[j]? = some v → Value.okWide P w .any b t v) →
    DataW.TrodAll enc P w 0 (fun _ => true) true ts vs ds ps → ∃ avl, RL (g0 w) avl vs ∧ ShAll P ts avl
  | [], [], [], _, _, _, _ => ⟨[], .nil, trivial⟩
  | t :: ts, v :: vs, d :: ds, ps, ht, hv, ⟨p, q, h1, h2, _⟩ => by
    obtain ⟨a, r1, r2⟩ := rel_param K hl (ht t (by simp)) (hv 0 t v rfl rfl) h1
    obtain ⟨avl, s1, s2⟩ := rel_params K hl (fun t' h' => ht t' (by simp [h'])) (fun j t' v' hj hj' => hv (j + 1) t' v' (by simpa using hj) (by simpa using hj')) h2
    exact ⟨a :: avl, .cons r1 s1, r2, s2⟩
end

/-- The arguments read behind the call avl they read before. -/
theorem trodAll_past {W W' : World} (K : Kids P (· < P.types.size)) (hz : ∀ {t e : TypeId}, t < P.types.size → P.underlying t = some (.slice e) → 0 < P.cellsOf e) (k : Past W W') {sp' : Nat → Bool} :
    ∀ {ts : List TypeId} {vs : List Value} {ds : List (DataW H)} {ps : List MemPlace}, (∀ t ∈ ts, t < P.types.size) → DataW.TrodAll enc P W 0 (fun _ => true) true ts vs ds ps → (∀ p ∈ ps, p.block < W.heap.size) → (∀ p ∈ ps, sp' p.block = true) →
      DataW.TrodAll enc P W' 0 sp' true ts vs ds ps
  | [], [], [], _, _, h, _, _ => h
  | t :: ts, v :: vs, d :: ds, ps, ht, ⟨p, q, ⟨n, h1⟩, h2, e⟩, hb, hs => by
    subst e
    refine ⟨p, q, ⟨n, DataW.trod_stays K hz (fun h => by cases h) (ht t (by simp)) h1 (fun x hx => ?_) (fun x hx => hs x (List.mem_append_left _ hx))⟩,
      trodAll_past K hz k (fun t' h' => ht t' (by simp [h'])) h2 (fun x hx => hb x (List.mem_append_right _ hx)) (fun x hx => hs x (List.mem_append_right _ hx)), rfl⟩
    have := hb x (List.mem_append_left _ hx)
    cases x with
    | cell b off => simp only [World.sameAt, World.cell?]; rw [k.blocks b this]
    | map b => exact k.blocks b this

/-- The parameters' types are plain, or slices of plain ones. -/
def topB (P : Program) (l ts : List TypeId) : Bool := ts.all fun t => decide (t < P.types.size) && (l.contains t || match P.underlying t with
  | some (.slice e) => l.contains e
  | _ => false)

theorem topB_spec {l ts : List TypeId} (h : topB P l ts = true) : ∀ t ∈ ts, t < P.types.size ∧ (t ∈ l ∨ ∃ e, P.underlying t = some (.slice e) ∧ e ∈ l) := fun t ht => by
  have hk := List.all_eq_true.1 h t ht
  simp only [Bool.and_eq_true, decide_eq_true_eq, Bool.or_eq_true] at hk
  refine ⟨hk.1, ?_⟩
  rcases hk.2 with h2 | h2
  · exact .inl (by simpa using h2)
  · split at h2
    · rename_i e hu
      exact .inr ⟨e, hu, by simpa using h2⟩
    · cases h2

theorem trodAll_len {w : World} {base : Nat} {sp : Nat → Bool} {held : Bool} : ∀ {ts : List TypeId} {vs : List Value} {ds : List (DataW H)} {ps : List MemPlace}, DataW.TrodAll enc P w base sp held ts vs ds ps → ds.length = ts.length
  | [], [], [], _, _ => rfl
  | _ :: _, _ :: _, _ :: _, _, ⟨_, _, _, h, _⟩ => by simp [trodAll_len h]

/-- A law's contract, avl a row wants it. -/
theorem law_contract {C : Program} {f : FuncId} {fn : Func} {s : ChangeSpec} {tb : TypeId} {l : List TypeId}
    (hvars : s.vars = []) (hres : fn.resultTypes = #[tb]) (htb : C.underlying tb = some .bool)
    (hspec : ∀ ds : List (DataW H), ds.length = fn.params.toList.length → s.fn H ds = { results := [.lit (.bool true)], args := ds })
    (K : Kids C (· < C.types.size)) (hz : ((List.range C.types.size).all fun t => match C.underlying t with | some (.slice e) => decide (0 < C.cellsOf e) | _ => true) = true)
    (hl : flatB C l = true) (hT : topB C l fn.params.toList = true)
    (call : ∀ avl, ShAll C fn.params.toList avl → ∃ o : Prop, o ∧ CallOk C f avl [] { av := .lit (.bool true), obl := o })
    (W : World) (hF : ∀ w' : World, (∀ b, b < W.heap.size → w'.heap[b]? = W.heap[b]?) → fctF w') (base : Nat) (args : Array Value) (ds gs : List (DataW H)) (before : List MemPlace)
    (hval : ∀ (j : Nat) t v, fn.params[j]? = some t → args[j]? = some v → Value.okWide C W .any base t v)
    (hW : DataW.Whole enc C fn.params.toList s.vars false W args.toList ds gs before) :
    Calls C f args W fun e W' => ∃ v, e = .returned v ∧ s.post enc C fn false true false false W args v W' := by
  have hW' := hW
  obtain ⟨p, q, hA, hV, rfl, hfz, hnd⟩ := hW
  rw [hvars] at hV
  obtain ⟨rfl, rfl⟩ := trodVars_none hV
  have hT' := topB_spec hT
  obtain ⟨avl, r1, r2⟩ := rel_params K hl (fun t ht => (hT' t ht).2) (fun j t v hj hj' => hval j t v (by simpa using hj) (by simpa using hj')) hA
  obtain ⟨o, ho, hc⟩ := call avl r2
  have hw := walk_of_call hc r1 ho hF
  rw [Array.toArray_toList] at hw
  refine hw.mono fun e W' ⟨he, hg⟩ => ⟨_, he, ?_⟩
  have hs := hspec ds (trodAll_len hA)
  refine post_of_past (pa := p) (pv := []) hW' (fun _ _ _ => ?_) (fun sp hsp => ?_) (fun sp _ => ?_) rfl hg (ok_one hres rfl (okWide_bool_mk htb _))
  · rw [List.append_nil, hs, hres]
    exact trodAll_mk1 (shut_bool htb _)
  · rw [List.append_nil, hs]
    exact trodAll_past K (fun h1 h2 => slices_full_of C hz _ _ h1 h2) hg (fun t ht => (hT' t ht).1) hA (fun x hx => hW'.lt x (by simpa using hx)) (fun x hx => hsp x (by simpa using hx))
  · rw [List.append_nil, hs, hvars]
    rfl

/-! ### Shapes, opened -/
section
variable {t e : TypeId} {k : IntKind} {av : AV} {q : List AV}
theorem sh_int (hu : P.underlying t = some (.int k)) (h : ShE P t q) : ∃ n, q = [.lit (.int k n)] ∧ (Lit.int k n).wf = true := by
  obtain ⟨n, h⟩ := h
  cases n with
  | zero => exact h.elim
  | succ n => unfold Sh at h; rw [hu] at h; exact h
theorem shV_int (hu : P.underlying t = some (.int k)) (h : ShV P t av) : ∃ n, av = .lit (.int k n) ∧ (Lit.int k n).wf = true := by
  unfold ShV at h; rw [hu] at h
  obtain ⟨n, h1, h2⟩ := sh_int hu h
  exact ⟨n, by simpa using h1, h2⟩
theorem shV_slice (hu : P.underlying t = some (.slice e)) (h : ShV P t av) : ∃ els, av = .sl els .no ∧ (∀ q ∈ els, ShE P e q) ∧ els.length ≤ maxLen := by
  unfold ShV at h; rw [hu] at h; exact h
theorem shAll_cons {ts : List TypeId} {avl : List AV} (h : ShAll P (t :: ts) avl) : ∃ a avl', avl = a :: avl' ∧ ShV P t a ∧ ShAll P ts avl' := by
  cases avl with
  | nil => exact h.elim
  | cons a avl' => exact ⟨a, avl', rfl, h.1, h.2⟩
theorem shAll_nil {avl : List AV} (h : ShAll P [] avl) : avl = [] := by
  cases avl with
  | nil => rfl
  | cons a avl' => exact h.elim
end

/-! ### Slices of numbers -/
theorem shV_ints {k : IntKind} {t e : TypeId} {av : AV} (hu : P.underlying t = some (.slice e)) (he : P.underlying e = some (.int k)) (h : ShV P t av) :
    ∃ l : List Int, av = .sl (l.map (eNum k)) .no ∧ l.length ≤ maxLen ∧ ∀ x ∈ l, (Lit.int k x).wf = true := by
  obtain ⟨els, rfl, hq, hlen⟩ := shV_slice hu h
  have : ∀ els : List (List AV), (∀ q ∈ els, ShE P e q) → ∃ l : List Int, els = l.map (eNum k) ∧ ∀ x ∈ l, (Lit.int k x).wf = true := by
    intro els
    induction els with
    | nil => intro _; exact ⟨[], rfl, fun _ h => by cases h⟩
    | cons q r ih =>
      intro hq
      obtain ⟨n, rfl, hw⟩ := sh_int he (hq q (by simp))
      obtain ⟨l, rfl, hl⟩ := ih fun q' h' => hq q' (by simp [h'])
      exact ⟨n :: l, rfl, fun x hx => by
        rcases List.mem_cons.1 hx with rfl | hx
        · exact hw
        · exact hl x hx⟩
  obtain ⟨l, rfl, hl⟩ := this els hq
  exact ⟨l, rfl, by simpa using hlen, hl⟩
end Go.Ab

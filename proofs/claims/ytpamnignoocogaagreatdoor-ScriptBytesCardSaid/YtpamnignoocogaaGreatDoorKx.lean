/- Maps whose keys are structs: the operations over rows of values, a range over such a map. No condition: over any program. -/
import Derived.Test.YtpamnignoocogaaGreatDoorM12
namespace Go.Ab
variable {P : Program} {ty : TyTab} {Γ : Gam} {n B : Nat} {Q : Exit → St → Prop} {σ : St}

/-! ### The operations over rows of values -/
section
variable {K V : Type} {kt : TypeId} {eq : K → K → Bool} {enc : K → List AV} {dec : List AV → K} {vE : V → AV} {k : List AV}
theorem hasS_enc (hk : ∀ x, keyS ty kt (enc x) = true) (he : ∀ x y, eqT ty 8 kt (enc x) (enc y) = some (eq x y)) (h : k = enc (dec k)) (m : List (K × V)) : hasS ty kt k (encM (vA enc) vE m) = some (hasM eq (dec k) m) := by
  generalize dec k = x at h
  subst h
  induction m with
  | nil => rfl
  | cons e r ih =>
    simp only [encM, List.map_cons, vA, hasS, hk, if_true, he, hasM] at ih ⊢
    rw [ih]
theorem getS_enc (he : ∀ x y, eqT ty 8 kt (enc x) (enc y) = some (eq x y)) (h : k = enc (dec k)) {z : AV} {d : V} (hz : z = vE d) (m : List (K × V)) : getS ty kt k z (encM (vA enc) vE m) = vE (getM eq (dec k) d m) := by
  generalize dec k = x at h
  subst h
  induction m with
  | nil => exact hz
  | cons e r ih =>
    simp only [encM, List.map_cons, vA, getS, he, getM, Option.some.injEq] at ih ⊢
    by_cases q : eq x e.1 = true
    · rw [if_pos q, if_pos q]
    · rw [if_neg q, if_neg q, ih]
theorem setS_enc (he : ∀ x y, eqT ty 8 kt (enc x) (enc y) = some (eq x y)) (h : k = enc (dec k)) {a : AV} {v : V} (ha : a = vE v) (m : List (K × V)) : setS ty kt k a (encM (vA enc) vE m) = encM (vA enc) vE (setM eq (dec k) v m) := by
  generalize dec k = x at h
  subst h
  subst ha
  induction m with
  | nil => rfl
  | cons e r ih =>
    simp only [encM, List.map_cons, vA, setS, he, setM, Option.some.injEq] at ih ⊢
    by_cases q : eq x e.1 = true
    · rw [if_pos q, if_pos q]; rfl
    · rw [if_neg q, if_neg q, ih]; rfl
theorem delS_enc (he : ∀ x y, eqT ty 8 kt (enc x) (enc y) = some (eq x y)) (h : k = enc (dec k)) (m : List (K × V)) : delS ty kt k (encM (vA enc) vE m) = encM (vA enc) vE (delM eq (dec k) m) := by
  generalize dec k = x at h
  subst h
  induction m with
  | nil => rfl
  | cons e r ih =>
    simp only [encM, List.map_cons, vA, delS, he, delM, Option.some.injEq] at ih ⊢
    by_cases q : eq x e.1 = true
    · rw [if_pos q, if_pos q]
    · rw [if_neg q, if_neg q, ih]; rfl
end

/-! ### A step of a range -/
/-- The value of a key of a map. -/
def kval : AV → Option Value
  | .lit k => some k
  | .agg cells => if cells.all isLit = true then some (keyVal cells) else none
  | _ => none
theorem R.kvalEq {g : G} {a : AV} {v k : Value} (h : R g a v) (e : Ab.kval a = some k) : v = k := by
  unfold Ab.kval at e
  split at e
  · cases e; exact h.lit_inv
  · split at e
    · rename_i hl; cases e; exact h.keyVal hl
    · cases e
  · cases e
theorem R.of_kval {g : G} {a : AV} {k : Value} (e : Ab.kval a = some k) : R g a k := by
  unfold Ab.kval at e
  split at e
  · cases e; exact .lit _
  · split at e
    · rename_i hl; cases e; exact R.ofKey hl
    · cases e
  · cases e
theorem next_mapK {g : G} (sm : Sim g) {i t : Nat} {es : List (AV × AV)} {vis : List Value} {cur : Option Value} (hM : g.M[i]? = some (.mapr es vis cur t)) (hk : ∀ p ∈ es, ∃ k, kval p.1 = some k) (ty : TypeId) {a : Value} (ha : R g (.it t) a) :
    ((∀ c k v, (c, v) ∈ es → kval c = some k → k ∈ vis) ∧ (Instr.next a false ty).run P g.w = .ok (.tuple #[.bool false]) g.w) ∨
    ∃ c k v u w', kval c = some k ∧ k ∉ vis ∧ (c, v) ∈ es ∧ (Instr.next a false ty).run P g.w = .ok (.tuple #[.bool true, k, u]) w' ∧
      Sim (g.put i (.mapr es (k :: vis) (some k) t) (g.ρ i) w') ∧ Keep g (g.put i (.mapr es (k :: vis) (some k) t) (g.ρ i) w') := by
  cases ha with
  | it _ ht =>
  obtain ⟨t1, t2, o1, oi, hb, hbi, ents, clock, seen, rfl, rfl, ⟨ents', clock', hee, hst, hl, hes⟩, hseen, hcur⟩ := sm.mapr i es vis cur t hM
  cases hee
  rw [← t2]
  have hlt := whole_lt sm hM (.inl rfl)
  have hlti := whole_lt sm hM (.inr rfl)
  have hne : g.β i ≠ (g.ρ i).b := fun h => by rw [h, hbi] at hb; cases hb
  have hkeys : ∀ (j : Nat) (h : j < es.length), kval es[j].1 = some (ents.toList.getD j default).key := fun j hj => by
    obtain ⟨k, hk'⟩ := hk es[j] (List.getElem_mem hj)
    rw [hk', (hes j hj).1.kvalEq hk']
  rcases run_next_at (P := P) g.w ty (g.ρ i).b (g.β i) clock clock seen ents clock hbi hb hst.1 (Nat.le_refl _) with ⟨h1, h2⟩ | ⟨e, h1, w1, h2, h3⟩
  · left
    refine ⟨fun c k v hkv hck => ?_, h2⟩
    obtain ⟨j, hj, hjj⟩ := List.mem_iff_getElem.1 hkv
    have q2 := hkeys j hj
    rw [hjj] at q2
    have q3 := Option.some.inj (hck.symm.trans q2)
    have hj' : j < ents.toList.length := by omega
    have hge : ents.toList.getD j default = ents.toList[j] := by simp [List.getD_eq_getElem?_getD, List.getElem?_eq_getElem hj']
    rw [hge] at q3
    rw [q3]
    refine (hseen _ (List.getElem_mem hj')).1 ?_
    have h0 : leftOf ents seen = #[] := Array.eq_empty_of_size_eq_zero h1
    unfold leftOf at h0
    rw [Array.filter_eq_empty_iff] at h0
    have := h0 ents.toList[j] (by simp)
    simpa using this
  · right
    obtain ⟨m1, m2⟩ : e ∈ ents.toList ∧ seen.contains e.born = false := by
      unfold leftOf at h1
      simpa using h1
    have hnv : e.key ∉ vis := fun h => by have := (hseen e m1).2 h; rw [m2] at this; cases this
    obtain ⟨j, hj, hje⟩ := List.mem_iff_getElem.1 m1
    have q2 := hkeys j (by omega)
    have hge : ents.toList.getD j default = e := by simp [List.getD_eq_getElem?_getD, List.getElem?_eq_getElem hj, hje]
    rw [hge] at q2
    have hh : w1.heap = g.w.heap := by rcases h2 with rfl | rfl <;> rfl
    have hW : ∀ q, q ≠ (g.ρ i).b → (ChangeMaps.setBlock w1 (g.ρ i).b (.mapIter (some (g.β i)) clock (seen.push e.born) clock)).heap[q]? = g.w.heap[q]? := fun q hq => by
      simp only [ChangeMaps.setBlock, hh]
      exact Array.getElem?_setIfInBounds_ne (Ne.symm hq)
    have hWi : (ChangeMaps.setBlock w1 (g.ρ i).b (.mapIter (some (g.β i)) clock (seen.push e.born) clock)).heap[(g.ρ i).b]? = some (.mapIter (some (g.β i)) clock (seen.push e.born) clock) := by
      simp [ChangeMaps.setBlock, hh, hlti]
    have hWs : (ChangeMaps.setBlock w1 (g.ρ i).b (.mapIter (some (g.β i)) clock (seen.push e.born) clock)).heap.size = g.w.heap.size := by
      simp [ChangeMaps.setBlock, hh]
    have hio : SameIO g.w (ChangeMaps.setBlock w1 (g.ρ i).b (.mapIter (some (g.β i)) clock (seen.push e.born) clock)) := by rcases h2 with rfl | rfl <;> exact ⟨rfl, rfl⟩
    have hin : Within g i (.mapr es (e.key :: vis) (some e.key) t) (g.ρ i) := fun a ha => .inl ⟨_, hM, ha⟩
    have hoth : ∀ q, q < g.w.heap.size → ¬ (AObj.mapr es vis cur t).whole (g.β i) (g.ρ i) q → (ChangeMaps.setBlock w1 (g.ρ i).b (.mapIter (some (g.β i)) clock (seen.push e.born) clock)).heap[q]? = g.w.heap[q]? :=
      fun q _ hq => hW q fun h => hq (.inr h)
    have hjn : ∀ x ∈ ents.toList, x.key = e.key → x = e := fun x hx hxe => nodup_inj hst.2.2 hx m1 hxe
    have hjb : ∀ x ∈ ents.toList, x.born = e.born → x = e := fun x hx hxe => nodup_inj hst.2.1 hx m1 hxe
    refine ⟨es[j].1, e.key, es[j].2, e.val, _, q2, hnv, List.getElem_mem (by omega), h3, sim_turn (q := .map ents clock) (qi := .mapIter (some (g.β i)) clock (seen.push e.born) clock) sm hM (fun _ h => h) hin (Nat.le_of_eq hWs.symm) hoth hio (by rw [hWs]; exact hlti) t1 t2
      ((hW _ hne).trans hb) hWi ⟨ents, clock, seen.push e.born, rfl, rfl, ⟨ents, clock, rfl, hst, hl, hes⟩, fun x hx => ?_, fun k' hk' => ?_⟩, keep_turn sm hM (fun _ h => h) hin (Nat.le_of_eq hWs.symm) hoth hio⟩
    · simp only [Array.contains_push, Bool.or_eq_true, beq_iff_eq]
      constructor
      · rintro (h | h)
        · exact List.mem_cons_of_mem _ ((hseen x hx).1 h)
        · rw [hjb x hx h]; simp
      · intro h
        rcases List.mem_cons.1 h with h | h
        · exact .inr (by rw [hjn x hx h])
        · exact .inl ((hseen x hx).2 h)
    · cases hk'
      exact ⟨e.born, by simp, fun x hx hxe => by rw [hjn x hx hxe]⟩

/-- A region that begins with a step of a range over a map of whatever keys. -/
theorem AWp.regNextK (hty : TyOk P ty) (hΓ : GamOk P Γ) {id t u i d1 : Nat} {ops : Array Oper} {o1 : Oper} {rest : List Oper} (ho : ops.toList = o1 :: rest) (ho1 : o1.op = .next (.tmp t) false) (hg : o1.guard = none)
    (hd1 : o1.dst = some d1) {keep dead : List Nat} (hd : dstsOk ops n ops.toList [] = true) (hn : noTags σ.A = true) {es : List (AV × AV)} {vis : List Value} {cur : Option Value}
    (he : ent σ.A t = some (none, .it u)) (hM : σ.M[i]? = some (.mapr es vis cur u)) (hk : ∀ p ∈ es, ∃ k, kval p.1 = some k)
    (h0 : (∀ c k v, (c, v) ∈ es → kval c = some k → k ∈ vis) → ∃ σ', regE keep dead ops.toList σ σ' (runR ty Γ ops rest (⟨d1, none, .tup [.lit (.bool false)]⟩ :: σ.A) σ.M) ∧ Q .normal σ')
    (h1 : ∀ c k v x, kval c = some k → k ∉ vis → (c, v) ∈ es → ∃ σ', regE keep dead ops.toList σ σ' (runR ty Γ ops rest (⟨d1, none, .tup [.lit (.bool true), c, .lit x]⟩ :: σ.A) (σ.M.set i (.mapr es (k :: vis) (some k) u))) ∧ Q .normal σ') :
    AWp P n B (.region id ops false) Q σ := by
  obtain ⟨A, M⟩ := σ
  intro g0 g a at_
  have hgM : g.M = M := at_.mem
  have htags : tagsIn A [] := fun e he τ hτ => by
    have := List.all_eq_true.1 hn e he
    simp [hτ] at this
  have hd' := hd
  rw [ho] at hd'
  unfold dstsOk at hd'
  rw [hd1] at hd'
  simp only [Bool.and_eq_true] at hd'
  obtain ⟨hda, hdb⟩ := hd'
  have htag : tagOf ops o1 = some none := by unfold tagOf; rw [hg]
  rw [htag] at hdb
  have hdl : d1 < a.tmps.size := by
    rw [at_.size]
    simpa using hda
  have tail : ∀ (g' : G) (v : Value) (av : AV) (M2 : List AObj), Sim g' → Keep g g' → g'.X = g.X → g'.M = M2 → R g' av v →
      (∃ σ', regE keep dead ops.toList ⟨A, M⟩ σ' (runR ty Γ ops rest (⟨d1, none, av⟩ :: A) M2) ∧ Q .normal σ') →
      wpList P ops (fun e a' w' => ∃ σ' g', Q e σ' ∧ g'.w = w' ∧ At n B g0 g' a' σ') rest (a.put (some d1) v) g'.w := by
    rintro g' v av M2 s' k hx hM2 hr ⟨⟨A', M'⟩, q, hQ⟩
    unfold regE at q
    split at q
    · rename_i recs A1 M1 hrun
      obtain ⟨q1, q2, q3⟩ := q
      simp only at q2 q3
      subst q2
      subst q3
      have hA' : EnvRel g' (⟨d1, none, av⟩ :: A) (a.put (some d1) v).tmps :=
        (EnvRel.keep k at_.env).put (dst := some d1) (tag := none) (fun d hd => by cases hd; exact ⟨hdl, free_of htags (by simp), fun τ hτ => by cases hτ⟩) hr
      refine run_text hty hΓ n rest hrun q1 hdb (fun e he τ hτ => ?_) (by rw [size_put]; exact at_.size) hM2 s' hA' fun a' g'' r1 r2 r3 rx r4 r5 r6 => ?_
      · rcases List.mem_cons.1 he with rfl | he
        · cases hτ
        · exact htags e he τ hτ
      · refine ⟨_, g'', hQ, rfl, at_.base, (rx.trans hx).trans at_.ax, (at_.keep.trans k).trans r5, r3, r4, keepE_rel r6 ?_ keep, r1, by rw [r2, defers_put]; exact at_.defers⟩
        rw [without_app]
        refine without_rel fun t' tag av' he' => ?_
        rw [without_ent] at he'
        split at he'
        · cases he'
        · rename_i hc
          have hdst : dstL ops.toList = d1 :: dstL rest := by rw [ho, dstL, hd1]
          rw [hdst] at hc
          simp only [List.contains_cons, Bool.or_eq_true, beq_iff_eq, not_or, Bool.not_eq_true] at hc
          refine r6 t' tag av' ?_
          rw [run_ent hrun t' (by simpa using hc.2), ent, if_neg (fun h => hc.1 h.symm)]
          exact he'
    · exact q.elim
  refine wp_region_list ?_
  rw [ho]
  unfold wpList
  rw [wanted_iff htag]
  simp only [tagB, if_true]
  left
  have hx : R g (.it u) (a.tmps.getD t undef) := at_.env t none _ he
  have hDoes : ∀ {v : Value} {w' : World}, (Instr.next (a.tmps.getD t undef) false o1.type).run P g.w = .ok v w' → Does P o1 a g.w (fun v' w'' => v' = v ∧ w'' = w') := by
    intro v w' hrun
    obtain ⟨dst, op, type, pos, after, guard⟩ := o1
    simp only at ho1 hrun
    subst ho1
    unfold Does
    show After P _ ((do pure (Next.value (← Instr.next (a.tmps.getD t undef) false type))).run P g.w)
    rw [Sem.run_bind, hrun]
    exact ⟨rfl, rfl⟩
  rcases next_mapK (P := P) at_.sim (by rw [hgM]; exact hM) hk o1.type hx with ⟨q1, q2⟩ | ⟨c, k, v, x, w', q0, q1, q2, q3, q4, q5⟩
  · refine (hDoes q2).wp fun v' w'' hv => ?_
    obtain ⟨rfl, rfl⟩ := hv
    rw [hd1]
    refine tail g _ (.tup [.lit (.bool false)]) M at_.sim (Keep.refl g) rfl hgM (.tup _ _ rfl fun j hj => ?_) (h0 q1)
    match j, hj with
    | 0, _ => exact .lit _
  · refine (hDoes q3).wp fun v' w'' hv => ?_
    obtain ⟨rfl, rfl⟩ := hv
    rw [hd1]
    refine tail _ _ (.tup [.lit (.bool true), c, .lit x]) _ q4 q5 rfl (by show g.M.set i _ = _; rw [hgM]) (.tup _ _ rfl fun j hj => ?_) (h1 c k v x q0 q1 q2)
    match j, hj with
    | 0, _ => exact .lit _
    | 1, _ => exact R.of_kval q0
    | 2, _ => exact .lit _

/-! ### A range over a map of whatever keys -/
section
variable {K V X : Type} {kE : K → AV} {kv : K → Value} {vE : V → AV}
theorem keys_nodupK (hk : ∀ x, kval (kE x) = some (kv x)) {g : G} (s : Sim g) {i u : Nat} {m : List (K × V)} {vis : List Value} {cur : Option Value} (hM : g.M[i]? = some (.mapr (encM kE vE m) vis cur u)) : (m.map (·.1)).Nodup := by
  obtain ⟨_, _, o1, oi, _, _, ents, clock, seen, rfl, _, ⟨ents', clock', hee, hst, hl, hes⟩, _, _⟩ := s.mapr i _ vis cur u hM
  cases hee
  have hml : (encM kE vE m).length = m.length := by simp [encM]
  have e : ents.toList.map (·.key) = m.map fun e => kv e.1 := by
    refine List.ext_getElem (by simp only [List.length_map]; omega) fun j h1 h2 => ?_
    simp only [List.length_map] at h1 h2
    have := (hes j (by omega)).1
    simp only [encM, List.getElem_map] at this
    have := this.kvalEq (hk _)
    rw [List.getD_eq_getElem?_getD, List.getElem?_eq_getElem h1] at this
    simpa using this
  have hnd := hst.2.2
  rw [e] at hnd
  simp only [List.Nodup, List.pairwise_map] at hnd ⊢
  exact hnd.imp fun h h' => h (by rw [h'])
theorem nodup_le {α : Type} : ∀ {l m : List α}, l.Nodup → (∀ x ∈ l, x ∈ m) → l.length ≤ m.length
  | [], _, _, _ => Nat.zero_le _
  | a :: l, m, h, hs => by
    rw [List.nodup_cons] at h
    obtain ⟨m1, m2, rfl⟩ := List.append_of_mem (hs a (List.mem_cons_self))
    have := nodup_le (l := l) (m := m1 ++ m2) h.2 fun x hx => by
      have hx' := hs x (List.mem_cons_of_mem _ hx)
      rcases List.mem_append.1 hx' with q | q
      · exact List.mem_append.2 (.inl q)
      · rcases List.mem_cons.1 q with rfl | q
        · exact absurd hx h.1
        · exact List.mem_append.2 (.inr q)
    simp only [List.length_append, List.length_cons] at this ⊢
    omega
theorem key_inj {m : List (K × V)} (hn : (m.map (·.1)).Nodup) {e e' : K × V} (he : e ∈ m) (he' : e' ∈ m) (h : e.1 = e'.1) : e = e' := by
  unfold List.Nodup at hn
  rw [List.pairwise_map] at hn
  refine Classical.byContradiction fun hne => ?_
  obtain ⟨i1, hi1, e1⟩ := List.mem_iff_getElem.1 he
  obtain ⟨i2, hi2, e2⟩ := List.mem_iff_getElem.1 he'
  rcases Nat.lt_trichotomy i1 i2 with q | q | q
  · have := List.pairwise_iff_getElem.1 hn i1 i2 hi1 hi2 q
    rw [e1, e2] at this; exact this h
  · subst q; exact hne (e1.symm.trans e2)
  · have := List.pairwise_iff_getElem.1 hn i2 i1 hi2 hi1 q
    rw [e1, e2] at this; exact this h.symm
/-- A range over a map that may lose entries on the way: 'done': the keys that came, with what was there. -/
theorem AWp.rangeK {c : Code} {id i u mm : Nat} (hk : ∀ x, kval (kE x) = some (kv x)) (hi : ∀ x y, kv x = kv y → x = y) (m : List (K × V)) (I : List (K × V) → X → Prop) (F : X → List (K × V)) (E : X → List Value → Option Value → St) (EX : X → St)
    (hE : ∀ x vis cur, (E x vis cur).M[i]? = some (.mapr (encM kE vE (F x)) vis cur u)) (x0 : X) (hx : F x0 = m) (hc : Conv B mm σ (E x0 [] none)) (h0 : I [] x0)
    (hF : ∀ done x, I done x → (∀ e ∈ F x, e ∈ m) ∧ ∀ e ∈ m, e ∉ done → e ∈ F x)
    (round : ∀ x vis cur done, (m.map (·.1)).Nodup → I done x → vis = done.map (fun e => kv e.1) → (∀ e ∈ done, e ∈ m) → AWp P n B c (fun e σ' => (e = .exit id ∧ (∀ k v, (k, v) ∈ F x → kv k ∈ vis) ∧ ∃ mx, Conv B mx σ' (EX x)) ∨
      (e = .normal ∧ ∃ (k : K) (v : V), kv k ∉ vis ∧ (k, v) ∈ F x ∧ ∃ x', I ((k, v) :: done) x' ∧ ∃ mx, Conv B mx σ' (E x' (kv k :: vis) (some (kv k))))) (E x vis cur))
    (hq : ∀ x σ' mx done, done.Perm m → I done x → Conv B mx σ' (EX x) → Q .normal σ') : AWp P n B (.block id (.loop c)) Q σ := by
  intro g0 g a at_
  obtain ⟨g1, _, at1⟩ := hc.at at_
  have hN : (m.map (·.1)).Nodup := by rw [← hx]; exact keys_nodupK hk at1.sim (by rw [at1.mem]; exact hE x0 [] none)
  refine (AWp.block (AWp.loop' (fun q σ => ∃ x vis cur done, σ = E x vis cur ∧ I done x ∧ vis = done.map (fun e => kv e.1) ∧ (∀ e ∈ done, e ∈ m) ∧ done.Nodup ∧ done.length + q = m.length + 1) (m.length + 1) mm _
    (hc := hc) ⟨x0, [], none, [], rfl, h0, rfl, fun _ h => (by cases h), .nil, by simp⟩ ?_) : AWp P n B (.block id (.loop c)) Q σ) g0 g a at_
  rintro q σ ⟨x, vis, cur, done, rfl, hI, hv, hd, hnd, hl⟩
  refine AWp.mono (round x vis cur done hN hI hv hd) fun e σ' h => ?_
  have hsub : done.length ≤ m.length := nodup_le hnd hd
  rcases h with ⟨rfl, h1, mx, h2⟩ | ⟨rfl, k, v, h1, h2, x', h3, mx, h4⟩
  · simp only [thenS, blockS, if_true]
    refine hq x σ' mx done ?_ hI h2
    have hmn : m.Nodup := by
      unfold List.Nodup at hN ⊢
      rw [List.pairwise_map] at hN
      exact hN.imp fun h q => h (by rw [q])
    refine (List.perm_ext_iff_of_nodup hnd hmn).2 fun e => ⟨hd e, fun he => ?_⟩
    refine Classical.byContradiction fun hne => ?_
    have := h1 e.1 e.2 ((hF done x hI).2 e he hne)
    rw [hv] at this
    obtain ⟨e', he', hk'⟩ := List.mem_map.1 this
    exact hne (by rw [← key_inj hN (hd e' he') he (hi _ _ hk')]; exact he')
  · simp only [thenS]
    have hnew : (k, v) ∉ done := fun h => h1 (by rw [hv]; exact List.mem_map.2 ⟨_, h, rfl⟩)
    have hd' : ∀ e ∈ (k, v) :: done, e ∈ m := fun e he => by
      rcases List.mem_cons.1 he with rfl | he
      · exact (hF done x hI).1 _ h2
      · exact hd e he
    have hnd' : ((k, v) :: done).Nodup := List.nodup_cons.2 ⟨hnew, hnd⟩
    have hsub' : ((k, v) :: done).length ≤ m.length := nodup_le hnd' hd'
    simp only [List.length_cons] at hsub'
    refine ⟨q - 1, mx, _, by omega, h4, x', _, _, (k, v) :: done, rfl, h3, by rw [hv]; rfl, hd', hnd', by simp only [List.length_cons]; omega⟩

def keepK {K V : Type} (p : K → Bool) (m : List (K × V)) : List (K × V) := m.filter fun e => p e.1
theorem nodup_filter {K V : Type} {m : List (K × V)} (h : (m.map (·.1)).Nodup) (q : K × V → Bool) : ((m.filter q).map (·.1)).Nodup := by
  unfold List.Nodup at h ⊢
  rw [List.pairwise_map] at h ⊢
  exact h.sublist List.filter_sublist
theorem delM_filter {K V : Type} {eq : K → K → Bool} (heq : ∀ x y, eq x y = true ↔ x = y) {k : K} : ∀ (m : List (K × V)), (m.map (·.1)).Nodup → delM eq k m = m.filter fun e => !eq k e.1
  | [], _ => rfl
  | e :: r, h => by
    simp only [List.map_cons, List.nodup_cons] at h
    rw [delM]
    by_cases hk : eq k e.1 = true
    · rw [if_pos hk, List.filter_cons_of_neg (by simp [hk])]
      refine (List.filter_eq_self.2 fun a ha => ?_).symm
      have := (heq _ _).1 hk
      subst this
      by_cases h2 : eq e.1 a.1 = true
      · exact absurd (List.mem_map.2 ⟨a, ha, ((heq _ _).1 h2).symm⟩) h.1
      · simp [h2]
    · rw [if_neg hk, List.filter_cons_of_pos (by simp [hk]), delM_filter heq r h.2]

/-- The loop 'for k := range m { if !p(k) { delete(m, k) } }', whatever the keys. -/
theorem AWp.pruneK {c : Code} {id i u mm : Nat} (hk : ∀ x, kval (kE x) = some (kv x)) (hi : ∀ x y, kv x = kv y → x = y) {eq : K → K → Bool} (heq : ∀ x y, eq x y = true ↔ x = y) (p : K → Bool) (m : List (K × V)) (E : List (K × V) → List Value → Option Value → St) (EX : List (K × V) → St)
    (hE : ∀ m' vis cur, (E m' vis cur).M[i]? = some (.mapr (encM kE vE m') vis cur u)) (hc : Conv B mm σ (E m [] none))
    (round : ∀ m' vis cur, AWp P n B c (fun e σ' => (e = .exit id ∧ (∀ k v, (k, v) ∈ m' → kv k ∈ vis) ∧ ∃ mx, Conv B mx σ' (EX m')) ∨
      (e = .normal ∧ ∃ (k : K) (v : V), kv k ∉ vis ∧ (k, v) ∈ m' ∧ ∃ mx, Conv B mx σ' (E (if p k = true then m' else delM eq k m') (kv k :: vis) (some (kv k))))) (E m' vis cur))
    (hq : ∀ σ' mx, Conv B mx σ' (EX (keepK p m)) → Q .normal σ') : AWp P n B (.block id (.loop c)) Q σ := by
  refine AWp.rangeK (X := List (K × V)) hk hi m (fun done x => ∃ q : K × V → Bool, x = m.filter q ∧ ∀ e ∈ m, (q e = true ↔ (e ∈ done → p e.1 = true))) (fun x => x) E EX hE m rfl hc
    ⟨fun _ => true, (List.filter_eq_self.2 fun _ _ => rfl).symm, fun e _ => ⟨fun _ h => (by cases h), fun _ => rfl⟩⟩ ?_ ?_ ?_
  · rintro done x ⟨q, rfl, hqe⟩
    exact ⟨fun e he => (List.mem_filter.1 he).1, fun e he hn => List.mem_filter.2 ⟨he, (hqe e he).2 fun h => absurd h hn⟩⟩
  · rintro x vis cur done hN ⟨q, rfl, hqe⟩ hv hd
    refine AWp.mono (round _ vis cur) fun e σ' h => ?_
    rcases h with h | ⟨rfl, k, v, h1, h2, mx, h3⟩
    · exact .inl h
    · refine .inr ⟨rfl, k, v, h1, h2, _, ?_, mx, h3⟩
      have hkm : (k, v) ∈ m := (List.mem_filter.1 h2).1
      by_cases hp : p k = true
      · rw [if_pos hp]
        refine ⟨q, rfl, fun e he => (hqe e he).trans ⟨fun h hm => ?_, fun h hm => h (List.mem_cons_of_mem _ hm)⟩⟩
        rcases List.mem_cons.1 hm with rfl | hm
        · exact hp
        · exact h hm
      · rw [if_neg hp]
        refine ⟨fun e => q e && !eq k e.1, ?_, fun e he => ?_⟩
        · rw [delM_filter heq _ (nodup_filter hN q), List.filter_filter]
          exact List.filter_congr fun e _ => Bool.and_comm _ _
        · by_cases hek : eq k e.1 = true
          · have h5 := (heq _ _).1 hek
            have h6 : (k, v) = e := key_inj hN hkm he h5
            subst h6
            simp [hek, hp]
          · simp only [hek, Bool.not_false, Bool.and_true]
            refine (hqe e he).trans ⟨fun h hm => ?_, fun h hm => h (List.mem_cons_of_mem _ hm)⟩
            rcases List.mem_cons.1 hm with rfl | hm
            · exact absurd ((heq _ _).2 rfl) hek
            · exact h hm
  · rintro x σ' mx done hperm ⟨q, rfl, hqe⟩ hcv
    refine hq σ' mx ?_
    have : m.filter q = keepK p m := List.filter_congr fun e he => by
      have := (hqe e he).trans ⟨fun h => h (hperm.mem_iff.2 he), fun h _ => h⟩
      exact Bool.eq_iff_iff.2 this
    rw [← this]; exact hcv

theorem foldr_perm {α A : Type} {f : α → A → A} (hf : ∀ x y a, f x (f y a) = f y (f x a)) (a : A) {l l' : List α} (h : l.Perm l') : l.foldr f a = l'.foldr f a := by
  induction h with
  | nil => rfl
  | cons x _ ih => simp only [List.foldr_cons, ih]
  | swap x y l => simp only [List.foldr_cons, hf]
  | trans _ _ h1 h2 => exact h1.trans h2
/-- A range over a map of whatever keys that reckons something that does not ask the order. -/
theorem AWp.foldK {A : Type} {c : Code} {id i u mm : Nat} (hk : ∀ x, kval (kE x) = some (kv x)) (hi : ∀ x y, kv x = kv y → x = y) (f : K × V → A → A) (hf : ∀ x y a, f x (f y a) = f y (f x a)) (m : List (K × V)) (a0 : A) (E : A → List Value → Option Value → St) (EX : A → St)
    (hE : ∀ a vis cur, (E a vis cur).M[i]? = some (.mapr (encM kE vE m) vis cur u)) (hc : Conv B mm σ (E a0 [] none))
    (round : ∀ a vis cur, AWp P n B c (fun e σ' => (e = .exit id ∧ (∀ k v, (k, v) ∈ m → kv k ∈ vis) ∧ ∃ mx, Conv B mx σ' (EX a)) ∨
      (e = .normal ∧ ∃ (k : K) (v : V), kv k ∉ vis ∧ (k, v) ∈ m ∧ ∃ mx, Conv B mx σ' (E (f (k, v) a) (kv k :: vis) (some (kv k))))) (E a vis cur))
    (hq : ∀ σ' mx, Conv B mx σ' (EX (m.foldr f a0)) → Q .normal σ') : AWp P n B (.block id (.loop c)) Q σ := by
  refine AWp.rangeK (X := A) hk hi m (fun done a => a = done.foldr f a0) (fun _ => m) E EX hE a0 rfl hc rfl (fun _ _ _ => ⟨fun _ h => h, fun _ h _ => h⟩) ?_ ?_
  · rintro x vis cur done hN rfl hv hd
    refine AWp.mono (round _ vis cur) fun e σ' h => ?_
    rcases h with h | ⟨rfl, k, v, h1, h2, mx, h3⟩
    · exact .inl h
    · exact .inr ⟨rfl, k, v, h1, h2, _, rfl, mx, h3⟩
  · rintro x σ' mx done hperm rfl hcv
    refine hq σ' mx ?_
    rw [← foldr_perm hf a0 hperm]; exact hcv
end
theorem eqI_iff (a b : Int) : eqI a b = true ↔ a = b := by simp [eqI]
theorem eqB_iff (a b : Bool) : eqB a b = true ↔ a = b := by cases a <;> cases b <;> simp [eqB]
theorem hasC_enc {K V : Type} {eq : K → K → Bool} {enc : K → List AV} {vE : V → AV} (he : ∀ x y, sameL (enc x) (enc y) = some (eq x y)) (k : K) (m : List (K × V)) : hasC (enc k) (encM (vA enc) vE m) = some (hasM eq k m) := by
  induction m with
  | nil => rfl
  | cons e r ih =>
    simp only [encM, List.map_cons, vA, hasC, he, hasM] at ih ⊢
    rw [ih]
    cases eq k e.1 <;> rfl
theorem getC_enc {K V : Type} {eq : K → K → Bool} {enc : K → List AV} {vE : V → AV} (he : ∀ x y, sameL (enc x) (enc y) = some (eq x y)) (k : K) (z : AV) (d : V) (m : List (K × V)) (h : hasM eq k m = true) : getC (enc k) z (encM (vA enc) vE m) = vE (getM eq k d m) := by
  induction m with
  | nil => cases h
  | cons e r ih =>
    simp only [hasM] at h
    simp only [encM, List.map_cons, vA, getC, he, getM, Option.some.injEq] at ih ⊢
    by_cases q : eq k e.1 = true
    · rw [if_pos q, if_pos q]
    · rw [if_neg q, if_neg q]
      exact ih (by cases hq : eq k e.1 <;> simp_all [pickB])
theorem hasM_memK {K V : Type} {eq : K → K → Bool} (heq : ∀ x y, eq x y = true ↔ x = y) {k : K} {v : V} {m : List (K × V)} (h : (k, v) ∈ m) : hasM eq k m = true := by
  induction m with
  | nil => cases h
  | cons e r ih =>
    simp only [hasM]
    rcases List.mem_cons.1 h with rfl | h
    · rw [(heq _ _).2 rfl]; rfl
    · rw [ih h]; cases eq k e.1 <;> rfl
end Go.Ab

/- Regions that draw their order: the run in the text's order serves every order. No condition: over any program. -/
import Derived.Test.YtjjjeolcapebbaaGreatDoorAb3
namespace Go.Ab
theorem evX_congr {A A' : Env} {vs : List (Nat × Bool)} {x : Operand} (h : ∀ t, x = .tmp t → ent A t = ent A' t) : evX A vs x = evX A' vs x := by
  cases x with
  | tmp t => simp only [evX, getE, h t rfl]
  | _ => rfl
theorem evXs_congr {A A' : Env} {vs : List (Nat × Bool)} : ∀ {xs : List Operand}, (∀ x ∈ xs, ∀ t, x = .tmp t → ent A t = ent A' t) → evXs A vs xs = evXs A' vs xs
  | [], _ => rfl
  | x :: r, h => by
    simp only [evXs, evX_congr (h x (by simp)), evXs_congr (xs := r) fun y hy => h y (List.mem_cons_of_mem _ hy)]
theorem evPs_congr {A A' : Env} {vs : List (Nat × Bool)} : ∀ {xs : List (Nat × Operand)}, (∀ x ∈ xs.map (·.2), ∀ t, x = .tmp t → ent A t = ent A' t) → evPs A vs xs = evPs A' vs xs
  | [], _ => rfl
  | (i, x) :: r, h => by
    simp only [evPs, evX_congr (h x (by simp)), evPs_congr (xs := r) fun y hy => h y (by simp at hy ⊢; exact .inr hy)]
theorem evO_congr {A A' : Env} {vs : List (Nat × Bool)} {x : Option Operand} (h : ∀ y, x = some y → ∀ t, y = .tmp t → ent A t = ent A' t) : evO A vs x = evO A' vs x := by
  cases x with
  | none => rfl
  | some y => simp only [evO, evX_congr (h y rfl)]

theorem evOp_congr {ty : TyTab} {Γ : Gam} {A A' : Env} {vs : List (Nat × Bool)} {M : List AObj} {o : Oper} (h : ∀ t, Operand.tmp t ∈ o.op.operands → ent A t = ent A' t) :
    evOp ty Γ A vs M o = evOp ty Γ A' vs M o := by
  obtain ⟨dst, op, type, pos, after, guard⟩ := o
  have hx : ∀ x, x ∈ op.operands → ∀ vs, evX A vs x = evX A' vs x := fun x hx vs => evX_congr fun t ht => h t (by subst ht; exact hx)
  cases op <;> simp only [evOp] <;> simp only [Op.operands] at hx
  case pick c a b =>
    have hc := fun vs => hx c (by simp) vs
    have ha := fun vs => hx a (by simp) vs
    have hb := fun vs => hx b (by simp) vs
    unfold pickOut
    cases c with
    | tmp t =>
      have hc' : getE A vs t = getE A' vs t := hc vs
      simp only [hc', ha, hb]
    | _ => rfl
  case build t ps =>
    have : evPs A vs ps.toList = evPs A' vs ps.toList := evPs_congr fun x hx' t ht => h t (by subst ht; simp only [Op.operands]; simpa using hx')
    rw [this]
  case buildSlice t n ps =>
    have : evPs A vs ps.toList = evPs A' vs ps.toList := evPs_congr fun x hx' t ht => h t (by subst ht; simp only [Op.operands]; simpa using hx')
    rw [this]
  case slice t x lo hi mx =>
    have e1 : evO A vs lo = evO A' vs lo := evO_congr fun y hy t ht => h t (by subst hy; subst ht; simp [Op.operands])
    have e2 : evO A vs hi = evO A' vs hi := evO_congr fun y hy t ht => h t (by subst hy; subst ht; simp [Op.operands])
    have e3 : evO A vs mx = evO A' vs mx := evO_congr fun y hy t ht => h t (by subst hy; subst ht; simp [Op.operands])
    rw [e1, e2, e3, hx x (by simp)]
  case makeFunc fn first cap =>
    have ea : evXs A vs cap.toList = evXs A' vs cap.toList := evXs_congr fun x hx' t ht => h t (by subst ht; simp [Op.operands]; right; simpa using hx')
    simp only [ea]
  case call c =>
    obtain ⟨callee, args, argTypes⟩ := c
    have ea : evXs A vs args.toList = evXs A' vs args.toList := evXs_congr fun x hx' t ht => h t (by subst ht; simp [Op.operands, Call.operands]; right; simpa using hx')
    cases callee with
    | value f =>
      have ef := hx f (by simp [Call.operands]) vs
      simp only [ea, ef]
    | builtin b => simp only [ea]
    | invoke r m =>
      have er := hx r (by simp [Call.operands]) vs
      simp only [ea, er]
  all_goals first | rfl | (simp only [hx _ (by simp)]; done) | (rw [hx _ (by simp)]; done) | (rw [hx _ (by simp), hx _ (by simp)]; done) | (rw [hx _ (by simp), hx _ (by simp), hx _ (by simp)]; done)

theorem visOf_congr {A A' : Env} : ∀ (n : Nat) (tag : Tag), (∀ p ∈ visOf A n tag, ent A p.1 = ent A' p.1) → visOf A n tag = visOf A' n tag
  | n, none, _ => by cases n <;> rfl
  | 0, some τ, _ => rfl
  | n + 1, some τ, h => by
    simp only [visOf] at h ⊢
    have h0 := h τ (by simp)
    rw [← h0]
    congr 1
    cases he : ent A τ.1 with
    | none => rfl
    | some q =>
      obtain ⟨tag, a⟩ := q
      simp only [he] at h
      exact visOf_congr n tag fun p hp => h p (List.mem_cons_of_mem _ hp)

/-! ### What a run leaves, place by place -/
section
variable {ty : TyTab} {Γ : Gam} {ops : Array Oper}

theorem run_cons {o : Oper} {r : List Oper} {A A' : Env} {M M' : List AObj} {recs : List Rec} (h : runR ty Γ ops (o :: r) A M = some (recs, A', M')) :
    ∃ c l, recs = c :: l ∧ recOf ty Γ ops A M o = some c ∧ runR ty Γ ops r (putE A o.dst c.tag c.out.av) (c.out.M.getD M) = some (l, A', M') := by
  unfold runR at h
  split at h
  · rename_i c hc
    split at h
    · rename_i l A2 M2 hl
      cases h
      exact ⟨c, l, rfl, hc, hl⟩
    · cases h
  · cases h

theorem run_len : ∀ {l : List Oper} {A A' : Env} {M M' : List AObj} {recs : List Rec}, runR ty Γ ops l A M = some (recs, A', M') → recs.length = l.length
  | [], _, _, _, _, _, h => by cases h; rfl
  | o :: r, A, A', M, M', recs, h => by
    obtain ⟨c, l, rfl, _, h2⟩ := run_cons h
    simp [run_len h2]

theorem run_rec : ∀ {l : List Oper} {A A' : Env} {M M' : List AObj} {recs : List Rec}, runR ty Γ ops l A M = some (recs, A', M') → ∀ {k : Nat} {o : Oper} {c : Rec}, l[k]? = some o → recs[k]? = some c → recOf ty Γ ops c.A c.M o = some c
  | [], _, _, _, _, _, h, k, o, c, hk, _ => by simp at hk
  | o' :: r, A, A', M, M', recs, h, k, o, c, hk, hc => by
    obtain ⟨c', l, rfl, h1, h2⟩ := run_cons h
    cases k with
    | zero =>
      simp at hk hc
      subst hk; subst hc
      obtain ⟨_, e1, e2, _⟩ := recOf_spec h1
      rw [e1, e2]; exact h1
    | succ k => exact run_rec h2 (by simpa using hk) (by simpa using hc)

/-- Who wrote a place last, ahead of number k. -/
theorem run_env : ∀ {l : List Oper} {A A' : Env} {M M' : List AObj} {recs : List Rec}, runR ty Γ ops l A M = some (recs, A', M') → ∀ {k : Nat} {c : Rec}, recs[k]? = some c → ∀ t,
    ((∀ m o, m < k → l[m]? = some o → o.dst ≠ some t) → ent c.A t = ent A t) ∧
    (∀ m o cm, m < k → l[m]? = some o → recs[m]? = some cm → o.dst = some t → (∀ m' o', m < m' → m' < k → l[m']? = some o' → o'.dst ≠ some t) → ent c.A t = some (cm.tag, cm.out.av))
  | [], _, _, _, _, _, h, k, c, hc, t => by cases h; simp at hc
  | o :: r, A, A', M, M', recs, h, k, c, hc, t => by
    obtain ⟨c', l, rfl, h1, h2⟩ := run_cons h
    obtain ⟨_, e1, _⟩ := recOf_spec h1
    cases k with
    | zero =>
      simp at hc; subst hc
      exact ⟨fun _ => by rw [e1], fun m _ _ hm => absurd hm (by omega)⟩
    | succ k =>
      have ih := run_env h2 (k := k) (c := c) (by simpa using hc) t
      refine ⟨fun hno => ?_, fun m o2 cm hm ho hcm hd hlast => ?_⟩
      · rw [ih.1 fun m o2 hm ho => hno (m + 1) o2 (by omega) (by simpa using ho)]
        have h0 := hno 0 o (by omega) (by simp)
        cases hod : o.dst with
        | none => rfl
        | some d => simp only [putE, ent]; rw [if_neg (fun e => h0 (by rw [hod, e]))]
      · cases m with
        | zero =>
          simp at ho hcm
          subst ho; subst hcm
          rw [ih.1 fun m' o' hm' ho' => hlast (m' + 1) o' (by omega) (by omega) (by simpa using ho')]
          rw [hd]; simp [putE, ent]
        | succ m => exact ih.2 m o2 cm (by omega) (by simpa using ho) (by simpa using hcm) hd fun m' o' h3 h4 h5 => hlast (m' + 1) o' (by omega) (by omega) (by simpa using h5)

theorem run_env_end : ∀ {l : List Oper} {A A' : Env} {M M' : List AObj} {recs : List Rec}, runR ty Γ ops l A M = some (recs, A', M') → ∀ t,
    ((∀ (m : Nat) o, l[m]? = some o → o.dst ≠ some t) → ent A' t = ent A t) ∧
    (∀ (m : Nat) o cm, l[m]? = some o → recs[m]? = some cm → o.dst = some t → (∀ m' o', m < m' → l[m']? = some o' → o'.dst ≠ some t) → ent A' t = some (cm.tag, cm.out.av))
  | [], _, _, _, _, _, h, t => by cases h; exact ⟨fun _ => rfl, fun m o cm ho => by simp at ho⟩
  | o :: r, A, A', M, M', recs, h, t => by
    obtain ⟨c', l, rfl, h1, h2⟩ := run_cons h
    have ih := run_env_end h2 t
    refine ⟨fun hno => ?_, fun m o2 cm ho hcm hd hlast => ?_⟩
    · rw [ih.1 fun m o2 ho => hno (m + 1) o2 (by simpa using ho)]
      have h0 := hno 0 o (by simp)
      cases hod : o.dst with
      | none => rfl
      | some d => simp only [putE, ent]; rw [if_neg (fun e => h0 (by rw [hod, e]))]
    · cases m with
      | zero =>
        simp at ho hcm
        subst ho; subst hcm
        rw [ih.1 fun m' o' ho' => hlast (m' + 1) o' (by omega) (by simpa using ho')]
        rw [hd]; simp [putE, ent]
      | succ m => exact ih.2 m o2 cm (by simpa using ho) (by simpa using hcm) hd fun m' o' h3 h5 => hlast (m' + 1) o' (by omega) (by simpa using h5)

def Rec.w (c : Rec) : Bool := c.out.M.isSome

/-- The memory behind operation number p - 1; at 0: the first one. -/
def memAt (M : List AObj) (recs : List Rec) : Nat → List AObj
  | 0 => M
  | p + 1 => match recs[p]? with
    | some c => c.out.M.getD M
    | none => M

/-- p is 0, or behind an operation that turns the memory. -/
def isP (recs : List Rec) : Nat → Prop
  | 0 => True
  | p + 1 => ∃ c, recs[p]? = some c ∧ c.w = true

theorem run_mem : ∀ {l : List Oper} {A A' : Env} {M M' : List AObj} {recs : List Rec}, runR ty Γ ops l A M = some (recs, A', M') →
    (∀ {k : Nat} {c : Rec}, recs[k]? = some c → ∃ p, p ≤ k ∧ isP recs p ∧ c.M = memAt M recs p ∧ ∀ w cw, w < k → recs[w]? = some cw → cw.w = true → w < p) ∧
    (∃ p, p ≤ recs.length ∧ isP recs p ∧ M' = memAt M recs p ∧ ∀ (w : Nat) cw, recs[w]? = some cw → cw.w = true → w < p)
  | [], _, _, _, _, _, h => by
    cases h
    exact ⟨fun hc => by simp at hc, 0, Nat.le_refl _, trivial, rfl, fun w cw hw => by simp at hw⟩
  | o :: r, A, A', M, M', recs, h => by
    obtain ⟨c', l, rfl, h1, h2⟩ := run_cons h
    obtain ⟨_, _, e2, _⟩ := recOf_spec h1
    obtain ⟨ih1, ih2⟩ := run_mem h2
    -- a place in the rest, seen from here
    have lift : ∀ (k p : Nat), p ≤ k → isP l p → (∀ w cw, w < k → l[w]? = some cw → cw.w = true → w < p) →
        ∃ q, q ≤ k + 1 ∧ isP (c' :: l) q ∧ memAt (c'.out.M.getD M) l p = memAt M (c' :: l) q ∧ ∀ w cw, w < k + 1 → (c' :: l)[w]? = some cw → cw.w = true → w < q := by
      intro k p hp hisP hw
      cases p with
      | zero =>
        cases hcw : c'.w with
        | true =>
          refine ⟨1, by omega, ⟨c', rfl, hcw⟩, ?_, fun w cw hwk hcw' hww => ?_⟩
          · simp only [memAt, List.getElem?_cons_zero]
          · cases w with
            | zero => omega
            | succ w => exact absurd (hw w cw (by omega) (by simpa using hcw') hww) (by omega)
        | false =>
          have hnone : c'.out.M = none := by simpa [Rec.w] using hcw
          refine ⟨0, by omega, trivial, by simp [memAt, hnone], fun w cw hwk hcw' hww => ?_⟩
          cases w with
          | zero => simp at hcw'; subst hcw'; rw [hcw] at hww; cases hww
          | succ w => exact absurd (hw w cw (by omega) (by simpa using hcw') hww) (by omega)
      | succ p =>
        obtain ⟨c, hc, hcw⟩ := hisP
        refine ⟨p + 2, by omega, ⟨c, by simpa using hc, hcw⟩, ?_, fun w cw hwk hcw' hww => ?_⟩
        · obtain ⟨m, hm⟩ := Option.isSome_iff_exists.1 hcw
          simp only [memAt, List.getElem?_cons_succ, hc, hm, Option.getD_some]
        · cases w with
          | zero => omega
          | succ w =>
            have := hw w cw (by omega) (by simpa using hcw') hww
            omega
    refine ⟨fun {k c} hc => ?_, ?_⟩
    · cases k with
      | zero =>
        simp at hc; subst hc
        exact ⟨0, Nat.le_refl _, trivial, e2, fun w _ hw => absurd hw (by omega)⟩
      | succ k =>
        obtain ⟨p, p1, p2, p3, p4⟩ := ih1 (k := k) (c := c) (by simpa using hc)
        obtain ⟨q, q1, q2, q3, q4⟩ := lift k p p1 p2 p4
        exact ⟨q, q1, q2, p3.trans q3, q4⟩
    · obtain ⟨p, p1, p2, p3, p4⟩ := ih2
      obtain ⟨q, q1, q2, q3, q4⟩ := lift l.length p p1 p2 fun w cw _ h5 h6 => p4 w cw h5 h6
      refine ⟨q, q1, q2, p3.trans q3, fun w cw h5 h6 => q4 w cw ?_ h5 h6⟩
      have : w < (c' :: l).length := by
        rcases Nat.lt_or_ge w (c' :: l).length with h | h
        · exact h
        · simp [List.getElem?_eq_none h] at h5
      simpa using this
end

/-! ### What hangs on what -/
def cloGo : List Oper → List Nat → List Nat
  | [], acc => acc
  | o :: r, acc => cloGo r (acc ++ [o.after.toList.foldl (fun s e => if Region.binds .any e then s ||| 2 ^ e.on ||| acc.getD e.on 0 else s) 0])

def cloOf (ops : Array Oper) : List Nat := cloGo ops.toList []

/-- Number k hangs on number m. -/
def hangs (B : List Nat) (k m : Nat) : Bool := (B.getD k 0).testBit m

theorem fold_bit (acc : List Nat) (m : Nat) : ∀ (l : List Edge) (s : Nat), (l.foldl (fun s e => if Region.binds .any e then s ||| 2 ^ e.on ||| acc.getD e.on 0 else s) s).testBit m = true →
    s.testBit m = true ∨ ∃ e ∈ l, Region.binds .any e = true ∧ (m = e.on ∨ (acc.getD e.on 0).testBit m = true)
  | [], s, h => .inl h
  | e :: l, s, h => by
    simp only [List.foldl_cons] at h
    rcases fold_bit acc m l _ h with h | ⟨e', h1, h2⟩
    · split at h
      · rename_i hb
        simp only [Nat.testBit_or, Bool.or_eq_true] at h
        rcases h with (h | h) | h
        · exact .inl h
        · right
          refine ⟨e, by simp, hb, .inl ?_⟩
          by_cases he : m = e.on
          · exact he
          · rw [Nat.testBit_two_pow_of_ne (fun h => he h.symm)] at h; cases h
        · exact .inr ⟨e, by simp, hb, .inr h⟩
      · exact .inl h
    · exact .inr ⟨e', List.mem_cons_of_mem _ h1, h2⟩

theorem cloGo_spec : ∀ (l : List Oper) (acc : List Nat), (∀ k, k < acc.length → (cloGo l acc)[k]? = acc[k]?) ∧ (cloGo l acc).length = acc.length + l.length ∧
    ∀ (k : Nat) o, l[k]? = some o → ∀ m, ((cloGo l acc).getD (acc.length + k) 0).testBit m = true →
      ∃ e ∈ o.after.toList, Region.binds .any e = true ∧ (m = e.on ∨ (e.on < acc.length + k ∧ ((cloGo l acc).getD e.on 0).testBit m = true))
  | [], acc => ⟨fun _ _ => rfl, by simp [cloGo], fun k o h => by simp at h⟩
  | o :: r, acc => by
    obtain ⟨h1, h2, h3⟩ := cloGo_spec r (acc ++ [o.after.toList.foldl (fun s e => if Region.binds .any e then s ||| 2 ^ e.on ||| acc.getD e.on 0 else s) 0])
    simp only [List.length_append, List.length_singleton] at h1 h2 h3
    refine ⟨fun k hk => ?_, by simp only [cloGo, List.length_cons]; omega, fun k o' ho m hm => ?_⟩
    · have := h1 k (by omega)
      simp only [cloGo]
      rw [this, List.getElem?_append_left hk]
    · cases k with
      | zero =>
        simp at ho; subst ho
        simp only [cloGo, Nat.add_zero] at hm ⊢
        have hv := h1 acc.length (by omega)
        rw [List.getD_eq_getElem?_getD, hv] at hm
        simp only [List.getElem?_append_right (Nat.le_refl _), Nat.sub_self, List.getElem?_cons_zero, Option.getD_some] at hm
        rcases fold_bit acc m _ _ hm with h | ⟨e, e1, e2, e3⟩
        · simp at h
        · refine ⟨e, e1, e2, e3.imp id fun h => ?_⟩
          have hlt : e.on < acc.length := by
            rcases Nat.lt_or_ge e.on acc.length with h' | h'
            · exact h'
            · simp [List.getD_eq_getElem?_getD, List.getElem?_eq_none h'] at h
          refine ⟨hlt, ?_⟩
          have hv2 := h1 e.on (by omega)
          rw [List.getD_eq_getElem?_getD, hv2, List.getElem?_append_left hlt, ← List.getD_eq_getElem?_getD]
          exact h
      | succ k =>
        simp only [cloGo] at hm ⊢
        have := h3 k o' (by simpa using ho) m (by rw [show acc.length + 1 + k = acc.length + (k + 1) by omega]; exact hm)
        obtain ⟨e, e1, e2, e3⟩ := this
        exact ⟨e, e1, e2, e3.imp id fun ⟨h, h'⟩ => ⟨by omega, h'⟩⟩

theorem hangs_spec {ops : Array Oper} {k m : Nat} {o : Oper} (ho : ops[k]? = some o) (h : hangs (cloOf ops) k m = true) :
    ∃ e ∈ o.after, Region.binds .any e = true ∧ (m = e.on ∨ (e.on < k ∧ hangs (cloOf ops) e.on m = true)) := by
  obtain ⟨_, _, h3⟩ := cloGo_spec ops.toList []
  have := h3 k o (by simpa using ho) m (by simpa [hangs, cloOf] using h)
  obtain ⟨e, e1, e2, e3⟩ := this
  exact ⟨e, by simpa using e1, e2, by simpa [hangs, cloOf] using e3⟩

/-- What is listed is closed under what it hangs on. -/
def Down (ops : Array Oper) (E : Array Bool) : Prop := ∀ (k : Nat) o, ops[k]? = some o → E.getD k true = true → ∀ e ∈ o.after, Region.binds .any e = true → E.getD e.on false = true

theorem down_hangs {ops : Array Oper} {E : Array Bool} (hd : Down ops E) (hE : E.size = ops.size) : ∀ (k : Nat) o, ops[k]? = some o → (∀ e ∈ o.after, Region.binds .any e = true → E.getD e.on false = true) → ∀ m, hangs (cloOf ops) k m = true → E.getD m false = true := by
  intro k
  induction k using Nat.strongRecOn with
  | _ k ih =>
    intro o ho hall m hm
    obtain ⟨e, e1, e2, e3⟩ := hangs_spec ho hm
    rcases e3 with rfl | ⟨hlt, hm'⟩
    · exact hall e e1 e2
    · have hon := hall e e1 e2
      have hsz : e.on < ops.size := by
        rcases Nat.lt_or_ge e.on E.size with h | h
        · omega
        · simp [Array.getD, show ¬ e.on < E.size by omega] at hon
      have ho' : ops[e.on]? = some ops[e.on] := by simp [hsz]
      refine ih e.on hlt _ ho' (hd e.on _ ho' ?_) m hm'
      have hE' : e.on < E.size := by omega
      simpa [Array.getD, hE'] using hon

/-- Does an operation make a block, and nothing else? -/
def isNew : Op → Prop
  | .alloc _ => True
  | .makeMap _ none => True
  | _ => False
/-- A block that is made: what is said of it. -/
def Fresh (av : Nat → AV) (vl : Nat → Value) (ob : AObj) (x : Obj) : Prop :=
  (∃ (z : List AV) (xs : Array Value) (T : TypeId), av = (fun i => .ptr i 0) ∧ vl = (fun b => .pointer (some ⟨b, 0, none⟩)) ∧ ob = .blk z ∧ x = .cells xs T (0, 0) ∧ xs.size = z.length ∧
    (∀ (g' : G) j (h : j < z.length), R g' z[j] (xs.getD j undef)) ∧ ∀ j, j < z.length → (xs.getD j undef).oneCell' = true) ∨
  (av = (fun i => .mp i) ∧ vl = (fun b => .map (some b)) ∧ ob = .mapo [] ∧ x = .map #[] 0)
theorem Fresh.cov {av : Nat → AV} {vl : Nat → Value} {ob : AObj} {x : Obj} (h : Fresh av vl ob x) {b : Nat} {r : Room} {a : Addr} (hc : ob.covers b r a) : a.block = b := by
  rcases h with ⟨_, _, _, _, _, rfl, _⟩ | ⟨_, _, rfl, _⟩ <;> exact hc
theorem Fresh.rel {av : Nat → AV} {vl : Nat → Value} {ob : AObj} {x : Obj} (h : Fresh av vl ob x) {g : G} {i : Nat} (hi : i < g.M.length) : R g (av i) (vl (g.β i)) := by
  rcases h with ⟨_, _, _, rfl, rfl, _⟩ | ⟨rfl, rfl, _⟩
  · exact .ptr _ _ hi
  · exact .mp _ hi
/-- What such an operation comes to. -/
theorem new_run {P : Program} {ty : TyTab} (hty : TyOk P ty) {Γ : Gam} {A : Env} {vs : List (Nat × Bool)} {M : List AObj} {o : Oper} {out : Out} (hop : isNew o.op) (hev : evOp ty Γ A vs M o = some out) (a : Act) (w : World) :
    ∃ av vl ob x, Fresh av vl ob x ∧ out.av = av M.length ∧ out.M = some (M ++ [ob]) ∧ (execOp a.eval o).run P w = .ok (.value (vl w.heap.size)) { w with heap := w.heap.push x } := by
  unfold isNew at hop
  split at hop
  · rename_i t ho
    unfold evOp at hev
    rw [ho] at hev
    simp only at hev
    cases htw : ty t with
    | none => simp [htw] at hev
    | some iw =>
      simp only [htw, Option.map_some, Option.some.injEq] at hev
      obtain ⟨z, hz, hz1, hz2⟩ := run_zeroValue hty htw w
      refine ⟨_, _, _, _, .inl ⟨iw.zero, z.cells, t, rfl, rfl, rfl, rfl, ?_⟩, by rw [← hev]; rfl, by rw [← hev]; rfl, ?_⟩
      · rw [hz1]
        exact ⟨(of_oneCells (g := ⟨[], fun _ => 0, fun _ => ⟨0, 0, 0, nobs⟩, w, fun _ => False⟩) z hz2).1, fun g'' => (of_oneCells (g := g'') z hz2).2.1, (of_oneCells (g := ⟨[], fun _ => 0, fun _ => ⟨0, 0, 0, nobs⟩, w, fun _ => False⟩) z hz2).2.2⟩
      · simp [execOp, ho, Instr.alloc, hz, newVar, newRow]
  · rename_i t ho
    unfold evOp at hev
    rw [ho] at hev
    simp only [Option.some.injEq] at hev
    refine ⟨_, _, _, _, .inr ⟨rfl, rfl, rfl, rfl⟩, by rw [← hev]; rfl, by rw [← hev]; rfl, ?_⟩
    simp [execOp, ho, Instr.makeMap]
  · exact hop.elim
theorem new_w {ty : TyTab} {Γ : Gam} {A : Env} {vs : List (Nat × Bool)} {M : List AObj} {o : Oper} {out : Out} (hop : isNew o.op) (hev : evOp ty Γ A vs M o = some out) : out.M.isSome = true := by
  unfold isNew at hop
  split at hop
  · rename_i t ho
    unfold evOp at hev
    rw [ho] at hev
    simp only at hev
    cases htw : ty t with
    | none => simp [htw] at hev
    | some iw => simp [htw, allocOut] at hev; simp [← hev]
  · rename_i t ho
    unfold evOp at hev
    rw [ho] at hev
    simp only [Option.some.injEq] at hev
    rw [← hev]; rfl
  · exact hop.elim

structure DrawOk (ops : Array Oper) (recs : List Rec) (fs : List Nat) (n : Nat) : Prop where
  back : ∀ (k : Nat) o e, ops[k]? = some o → e ∈ o.after → Region.binds .any e = true → e.on < k
  dist : ∀ (i j : Nat) oi oj d, ops[i]? = some oi → ops[j]? = some oj → oi.dst = some d → oj.dst = some d → i = j
  inb : ∀ (i : Nat) o d, ops[i]? = some o → o.dst = some d → d < n
  seen : ∀ (i m : Nat) oi om c d, ops[i]? = some oi → ops[m]? = some om → recs[i]? = some c → om.dst = some d → (Operand.tmp d ∈ oi.op.operands ∨ d ∈ c.vs.map (·.1)) → m ≠ i →
    (m < i ∧ hangs (cloOf ops) i m = true) ∨ (i < m ∧ hangs (cloOf ops) m i = true)
  own : ∀ (k : Nat) o j b t, ops[k]? = some o → o.guard = some (j, b) → (ops[j]?).bind (·.dst) = some t → hangs (cloOf ops) k j = true ∧ o.dst ≠ some t
  ww : ∀ (i j : Nat) ci cj, recs[i]? = some ci → recs[j]? = some cj → ci.w = true → cj.w = true → i < j → j ∉ fs → hangs (cloOf ops) j i = true
  fl : ∀ f ∈ fs, ∃ o d, ops[f]? = some o ∧ isNew o.op ∧ o.guard = none ∧ o.dst = some d
  us : ∀ (k f w : Nat) cw, f ∈ fs → k < ops.size → hangs (cloOf ops) k f = true → recs[w]? = some cw → cw.w = true → w < f → hangs (cloOf ops) k w = true

def Same (ty : TyTab) (Γ : Gam) (c : Rec) (M : List AObj) (o : Oper) : Prop := ∃ out, evOp ty Γ c.A c.vs M o = some out ∧ out.av = c.out.av ∧ out.M = none ∧ holds c.A c.vs out.obl

/-- An operation that leaves the memory alone yields the same at every memory that it may meet. -/
def Cross (ty : TyTab) (Γ : Gam) (ops : Array Oper) (recs : List Rec) (M : List AObj) : Prop :=
  ∀ (k p : Nat) c o, recs[k]? = some c → ops[k]? = some o → c.w = false → isP recs p → (∀ (w : Nat) cw, recs[w]? = some cw → cw.w = true → hangs (cloOf ops) k w = true → w < p) →
    (∀ (w : Nat) cw, recs[w]? = some cw → cw.w = true → hangs (cloOf ops) w k = true → p ≤ w) → p ≤ recs.length → memAt M recs p ≠ c.M → Same ty Γ c (memAt M recs p) o

/-- An alloc that has come up ahead of its place: its block is set aside. -/
structure Pend (ops : Array Oper) (recs : List Rec) (E : Array Bool) (p : Nat) (a : Act) (g0 : G) (w : World) (f b : Nat) : Prop where
  listed : E.getD f true = true
  pos : p ≤ f
  old : g0.w.heap.size ≤ b
  new : b < w.heap.size
  cells : ∃ (av : Nat → AV) (vl : Nat → Value) (ob : AObj) (x : Obj) (c : Rec), recs[f]? = some c ∧ c.tag = none ∧ c.out.av = av c.M.length ∧ c.out.M = some (c.M ++ [ob]) ∧ w.heap[b]? = some x ∧ Fresh av vl ob x ∧
    ∀ o d, ops[f]? = some o → o.dst = some d → a.tmps.getD d undef = vl b

/-- What is set aside meanwhile. -/
def asideX (X : Addr → Prop) (pend : List (Nat × Nat)) : Addr → Prop := fun x => X x ∨ ∃ q ∈ pend, q.2 = x.block
theorem asideX_nil (X : Addr → Prop) : asideX X [] = X := by funext x; simp [asideX]

/-- In the course of a region: E is listed; the memory is that at p; pend are the allocs that came up ahead of their place. -/
structure MidP (ops : Array Oper) (recs : List Rec) (fs : List Nat) (M : List AObj) (n : Nat) (a0 : Act) (g0 : G) (A0 : Env) (E : Array Bool) (a : Act) (p : Nat) (pend : List (Nat × Nat)) (g : G) : Prop where
  size : E.size = ops.size
  down : Down ops E
  ple : p ≤ recs.length
  isp : isP recs p
  mem : g.M = memAt M recs p
  wr : ∀ (w : Nat) cw, recs[w]? = some cw → cw.w = true → w ∉ fs → (E.getD w true = true ↔ w < p)
  fl : ∀ w ∈ fs, w < p → E.getD w true = true
  gx : g.X = asideX g0.X pend
  pd : ∀ q ∈ pend, q.1 ∈ fs ∧ Pend ops recs E p a g0 g.w q.1 q.2
  pf : ∀ w ∈ fs, E.getD w true = true → p ≤ w → ∃ b, (w, b) ∈ pend
  pu : ∀ q q', q ∈ pend → q' ∈ pend → (q.1 = q'.1 ∨ q.2 = q'.2) → q = q'
  sim : Sim g
  keep : Keep g0 g
  tsize : a.tmps.size = n
  defs : a.defers = a0.defers
  done : ∀ (k : Nat) o c d, ops[k]? = some o → recs[k]? = some c → o.dst = some d → E.getD k true = true → (k ∈ fs → k < p) → TagRel c.tag a.tmps d (R g c.out.av (a.tmps.getD d undef))
  same : ∀ t, (∀ (k : Nat) o, ops[k]? = some o → E.getD k true = true → o.dst ≠ some t) → a.tmps.getD t undef = a0.tmps.getD t undef

def Mid (ops : Array Oper) (recs : List Rec) (fs : List Nat) (M : List AObj) (n : Nat) (a0 : Act) (g0 : G) (A0 : Env) (E : Array Bool) (a : Act) (w : World) : Prop :=
  ∃ p pend g, g.w = w ∧ MidP ops recs fs M n a0 g0 A0 E a p pend g

theorem lt_of_get {α : Type} {a : Array α} {i : Nat} {x : α} (h : a[i]? = some x) : i < a.size := by
  rcases Nat.lt_or_ge i a.size with h' | h'
  · exact h'
  · simp [Array.getElem?_eq_none h'] at h
theorem llt_of_get {α : Type} {a : List α} {i : Nat} {x : α} (h : a[i]? = some x) : i < a.length := by
  rcases Nat.lt_or_ge i a.length with h' | h'
  · exact h'
  · simp [List.getElem?_eq_none h'] at h

theorem listed_iff {E : Array Bool} {k n : Nat} (hE : E.size = n) (hk : k < n) (b : Bool) : E.getD k b = E.getD k true := by
  have : k < E.size := by omega
  simp [Array.getD, this]

section
variable {P : Program} {ty : TyTab} {Γ : Gam}

theorem memAt_here {M : List AObj} {recs : List Rec} {A A1 : Env} {M1 : List AObj} {ops : Array Oper} {l : List Oper} (hrun : runR ty Γ ops l A M = some (recs, A1, M1)) {k p : Nat} {c : Rec} (hc : recs[k]? = some c) (hp : isP recs p) (hpk : p ≤ k)
    (hno : ∀ (w : Nat) cw, recs[w]? = some cw → cw.w = true → p ≤ w → k ≤ w) : c.M = memAt M recs p := by
  obtain ⟨q, q1, q2, q3, q4⟩ := (run_mem hrun).1 hc
  have hqp : q = p := by
    apply Nat.le_antisymm
    · cases q with
      | zero => omega
      | succ q =>
        obtain ⟨cq, hcq, hw⟩ := q2
        rcases Nat.lt_or_ge q p with h | h
        · exact h
        · have := hno q cq hcq hw h; omega
    · cases p with
      | zero => omega
      | succ p =>
        obtain ⟨cp, hcp, hw⟩ := hp
        have := q4 p cp (by omega) hcp hw; omega
  rw [q3, hqp]

/-- The memory speaks of an alloc that came up ahead of its place, when its turn has come. -/
theorem mid_advance {ops : Array Oper} {recs : List Rec} {fs : List Nat} {M M1 : List AObj} {A0 A1 : Env} {n : Nat} {a0 : Act} {g0 : G} (hrun : runR ty Γ ops ops.toList A0 M = some (recs, A1, M1))
    (hD : DrawOk ops recs fs n) (hx0 : ∀ x, g0.X x → x.block < g0.w.heap.size) {E : Array Bool} {a : Act} {p : Nat} {pend : List (Nat × Nat)} {g : G} (hm : MidP ops recs fs M n a0 g0 A0 E a p pend g)
    {f : Nat} (hf : f ∈ fs) (hE : E.getD f true = true) (hpf : p ≤ f) (hno : ∀ (w : Nat) cw, recs[w]? = some cw → cw.w = true → p ≤ w → f ≤ w) :
    ∃ g', g'.w = g.w ∧ MidP ops recs fs M n a0 g0 A0 E a (f + 1) (pend.filter fun q => q.1 != f) g' := by
  obtain ⟨b, hb⟩ := hm.pf f hf hE hpf
  obtain ⟨_, hp⟩ := hm.pd _ hb
  obtain ⟨av, vl, ob, x0, c, hc, htag, hav, hcM, hheap, hfr, hval⟩ := hp.cells
  have hlen : recs.length = ops.size := by have := run_len hrun; simpa using this
  have hcm : c.M = g.M := by rw [hm.mem]; exact memAt_here hrun hc hm.isp hpf hno
  have hbX : ∀ x : Addr, x.block = b → g.X x := fun x h => by rw [hm.gx]; exact .inr ⟨_, hb, h.symm⟩
  have hnX0 : ∀ x : Addr, x.block = b → ¬ g0.X x := fun x h hx => by have := hx0 x hx; have := hp.old; omega
  have hkeepX : ∀ q, q ∈ pend → q.1 ≠ f → q ∈ pend.filter fun q => q.1 != f := fun q hq h => List.mem_filter.2 ⟨hq, by simpa using h⟩
  let g' : G := ⟨g.M ++ [ob], upd g.β g.M.length b, upd g.ρ g.M.length ⟨0, 0, 0, nobs⟩, g.w, asideX g0.X (pend.filter fun q => q.1 != f)⟩
  have hX' : ∀ x, g'.X x → g.X x ∧ x.block ≠ b := by
    rintro x (h | ⟨q, hq, h⟩)
    · exact ⟨by rw [hm.gx]; exact .inl h, fun hb' => hnX0 x hb' h⟩
    · obtain ⟨hq1, hq2⟩ := List.mem_filter.1 hq
      refine ⟨by rw [hm.gx]; exact .inr ⟨q, hq1, h⟩, fun hb' => ?_⟩
      have := hm.pu q (f, b) hq1 hb (.inr (by simp only; omega))
      subst this
      simp at hq2
  have hXi : ∀ x, g.X x → x.block ≠ b → g'.X x := by
    intro x h hxb
    rw [hm.gx] at h
    rcases h with h | ⟨q, hq, h⟩
    · exact .inl h
    · refine .inr ⟨q, hkeepX q hq fun he => ?_, h⟩
      have := hm.pu q (f, b) hq hb (.inl he)
      subst this
      exact hxb h.symm
  have hregM : ∀ x, g.regM x → g'.regM x := fun x ⟨i, o, hi, hcov⟩ => by
    have hlt := llt_of_get hi
    exact ⟨i, o, by simp only [g', List.getElem?_append_left hlt]; exact hi, by simpa [g', upd_other _ _ (Nat.ne_of_lt hlt)] using hcov⟩
  have hreg : ∀ x, g'.reg x → g.reg x := by
    rintro x (h | ⟨i, o, hi, hcov⟩)
    · exact .inl (hX' x h).1
    · rcases add_get hi with ⟨hlt, hi'⟩ | ⟨rfl, rfl⟩
      · exact reg_of hi' (by simpa [g', upd_other _ _ (Nat.ne_of_lt hlt)] using hcov)
      · exact .inl (hbX x (hfr.cov (by simpa [g'] using hcov)))
  have k0 : Keep0 g g' := by
    refine ⟨by simp [g'], fun i hi => upd_other _ _ (Nat.ne_of_lt hi), fun t ht e' he' => ?_, Nat.le_refl _, fun _ _ h _ => h, fun x _ h h' => h (hreg x h'), fun _ _ _ => rfl, ⟨rfl, rfl⟩⟩
    rcases add_get he' with ⟨_, h'⟩ | ⟨h', _⟩
    · exact ⟨e', h', Nat.le_refl _, fun _ => upd_other _ _ (Nat.ne_of_lt ht)⟩
    · omega
  have hrb : ∀ (i : Nat) (o : AObj) (x : Addr), g.M[i]? = some o → o.covers (g.β i) (g.ρ i) x → x.block ≠ b := fun i o x hi hcov h => hm.sim.xdis x (hbX x h) ⟨i, o, hi, hcov⟩
  have sim : Sim g' := by
    refine ⟨hm.sim.fct.keep0 k0, fun i cells hi => ?_, fun i t pos hi => ?_, fun t e ht => ?_, fun i j oi oj x hi hj hci hcj => ?_, fun x hx => hm.sim.inb x (hreg x hx), fun x hx => ?_, fun i es hi => ?_, fun i es vis cur t hi => ?_, fun i φ hi => ?_, fun i P cur hi => ?_, fun i z els hi => ?_⟩
    · rcases add_get hi with ⟨hlt, hi'⟩ | ⟨rfl, h⟩
      · obtain ⟨ys, T', h1, h2, h3, h4⟩ := hm.sim.blk i cells hi'
        exact ⟨ys, T', by simp only [g', upd_other _ _ (Nat.ne_of_lt hlt)]; exact h1, h2, fun j hj => (h3 j hj).keep0 k0, h4⟩
      · rcases hfr with ⟨z, xs, T, _, _, rfl, rfl, hxs, hxr, hx1⟩ | ⟨_, _, rfl, _⟩ <;> cases h
        exact ⟨xs, T, by simp only [g', upd_same]; exact hheap, hxs, fun j hj => hxr g' j hj, hx1⟩
    · rcases add_get hi with ⟨hlt, hi'⟩ | ⟨_, h⟩
      · simp only [g', upd_other _ _ (Nat.ne_of_lt hlt)]; exact hm.sim.iter i t pos hi'
      · rcases hfr with ⟨_, _, _, _, _, rfl, _⟩ | ⟨_, _, rfl, _⟩ <;> cases h
    · rcases add_get ht with ⟨hlt, ht'⟩ | ⟨_, h⟩
      · simp only [g', upd_other _ _ (Nat.ne_of_lt hlt)]; exact hm.sim.room t e ht'
      · rcases hfr with ⟨_, _, _, _, _, rfl, _⟩ | ⟨_, _, rfl, _⟩ <;> cases h
    · rcases add_get hi with ⟨hlt, hi'⟩ | ⟨rfl, h⟩ <;> rcases add_get hj with ⟨hlt', hj'⟩ | ⟨rfl, h'⟩
      · simp only [g', upd_other _ _ (Nat.ne_of_lt hlt)] at hci
        simp only [g', upd_other _ _ (Nat.ne_of_lt hlt')] at hcj
        exact hm.sim.disj i j oi oj x hi' hj' hci hcj
      · simp only [g', upd_other _ _ (Nat.ne_of_lt hlt)] at hci
        simp only [g', upd_same, h'] at hcj
        exact absurd (hfr.cov hcj) (hrb i oi x hi' hci)
      · simp only [g', upd_other _ _ (Nat.ne_of_lt hlt')] at hcj
        simp only [g', upd_same, h] at hci
        exact absurd (hfr.cov hci) (hrb j oj x hj' hcj)
      · rfl
    · rintro ⟨i, o, hi, hcov⟩
      obtain ⟨h1, h2⟩ := hX' x hx
      rcases add_get hi with ⟨hlt, hi'⟩ | ⟨rfl, rfl⟩
      · exact hm.sim.xdis x h1 ⟨i, o, hi', by simpa [g', upd_other _ _ (Nat.ne_of_lt hlt)] using hcov⟩
      · exact h2 (hfr.cov (by simpa [g'] using hcov))
    · rcases add_get hi with ⟨hlt, hi'⟩ | ⟨rfl, h⟩
      · obtain ⟨o', h1, h2⟩ := hm.sim.mapo i es hi'
        exact ⟨o', by simp only [g', upd_other _ _ (Nat.ne_of_lt hlt)]; exact h1, h2.keep0 k0⟩
      · rcases hfr with ⟨_, _, _, _, _, rfl, _⟩ | ⟨_, _, rfl, rfl⟩ <;> cases h
        exact ⟨_, by simp only [g', upd_same]; exact hheap, ⟨#[], 0, rfl, MapKept.stamped_empty 0, rfl, fun j hj => by simp at hj⟩⟩
    · rcases add_get hi with ⟨hlt, hi'⟩ | ⟨_, h⟩
      · obtain ⟨t1, t2, o', oi, h1, h2, h3⟩ := hm.sim.mapr i es vis cur t hi'
        exact ⟨by simp only [g', List.length_append]; omega, by simp only [g', upd_other _ _ (Nat.ne_of_lt hlt), upd_other _ _ (Nat.ne_of_lt t1)]; exact t2, o', oi, by simp only [g', upd_other _ _ (Nat.ne_of_lt hlt)]; exact h1,
          by simp only [g', upd_other _ _ (Nat.ne_of_lt hlt)]; exact h2, by simp only [g', upd_other _ _ (Nat.ne_of_lt hlt)]; exact h3.keep0 k0⟩
      · rcases hfr with ⟨_, _, _, _, _, rfl, _⟩ | ⟨_, _, rfl, _⟩ <;> cases h
    · rcases add_get hi with ⟨hlt, hi'⟩ | ⟨_, h⟩
      · simp only [g', upd_other _ _ (Nat.ne_of_lt hlt)]; exact hm.sim.opq i φ hi'
      · rcases hfr with ⟨_, _, _, _, _, rfl, _⟩ | ⟨_, _, rfl, _⟩ <;> cases h
    · rcases add_get hi with ⟨hlt, hi'⟩ | ⟨_, h⟩
      · exact hm.sim.ownKeep k0 (fun x hx => hm.sim.inb x (hreg x hx)) hi' hi (upd_other _ _ (Nat.ne_of_lt hlt)) (by simp only [g', upd_other _ _ (Nat.ne_of_lt hlt)]) fun _ _ => rfl
      · rcases hfr with ⟨_, _, _, _, _, rfl, _⟩ | ⟨_, _, rfl, _⟩ <;> cases h
    · rcases add_get hi with ⟨hlt, hi'⟩ | ⟨_, h⟩
      · have q := (hm.sim.arr i z els hi').keep0 k0 fun _ => rfl
        show ArrRel _ z els (upd g.β g.M.length b i)
        rw [upd_other _ _ (Nat.ne_of_lt hlt)]; exact q
      · rcases hfr with ⟨_, _, _, _, _, rfl, _⟩ | ⟨_, _, rfl, _⟩ <;> cases h
  have kk : Keep g0 g' := by
    have k := hm.keep
    have kt : Keep0 g0 g' := ⟨Nat.le_trans k.len k0.len, fun i hi => (k0.ptr i (Nat.lt_of_lt_of_le hi k.len)).trans (k.ptr i hi), fun t ht e' he' => by
      rcases add_get he' with ⟨hlt, h'⟩ | ⟨h', _⟩
      · obtain ⟨e, e1, e2, e3⟩ := k.rooms t ht e' h'
        exact ⟨e, e1, e2, fun h => (upd_other _ _ (Nat.ne_of_lt hlt)).trans (e3 h)⟩
      · have := k.len; omega, k.size, k.cells, fun x hx hr h => k.regs x hx hr (hreg x h), k.blocks, k.io⟩
    exact ⟨kt, fun x hx => .inl hx, k.xcell, k.xblk⟩
  have hmem : g'.M = memAt M recs (f + 1) := by
    show g.M ++ [ob] = _
    simp only [memAt, hc, hcM, hcm, Option.getD_some]
  have hfw : c.w = true := by simp [Rec.w, hcM]
  refine ⟨g', rfl, hm.size, hm.down, by have := llt_of_get hc; omega, ⟨c, hc, hfw⟩, hmem, fun w cw hcw hww hwf => ?_, fun w hw hwp => ?_, rfl, fun q hq => ?_, fun w hw hEw hwp => ?_, fun q q' hq hq' h => ?_, sim, kk, hm.tsize, hm.defs, fun k o ck d hok hck hdk hlk hkf => ?_, hm.same⟩
  · rw [hm.wr w cw hcw hww hwf]
    constructor
    · intro h; omega
    · intro h
      rcases Nat.lt_or_ge w p with h' | h'
      · exact h'
      · have := hno w cw hcw hww h'
        have : w = f := by omega
        subst this; exact absurd hf hwf
  · rcases Nat.lt_or_ge w p with h' | h'
    · exact hm.fl w hw h'
    · obtain ⟨ow, dw, how, how2, how3, how4⟩ := hD.fl w hw
      have hcw : ∃ cw, recs[w]? = some cw := ⟨recs[w]'(by rw [hlen]; exact lt_of_get how), by simp [hlen, lt_of_get how]⟩
      obtain ⟨cw, hcw⟩ := hcw
      have hww : cw.w = true := by
        have hrec := run_rec hrun (k := w) (o := ow) (c := cw) (by simpa using how) hcw
        obtain ⟨_, _, _, _, hev, _⟩ := recOf_spec hrec
        exact new_w how2 hev
      have := hno w cw hcw hww h'
      have : w = f := by omega
      subst this; exact hE
  · obtain ⟨hq1, hq2⟩ := List.mem_filter.1 hq
    obtain ⟨h1, h2⟩ := hm.pd q hq1
    refine ⟨h1, h2.listed, ?_, h2.old, h2.new, h2.cells⟩
    obtain ⟨_, _, _, _, c', hc', _, _, hcM', _⟩ := h2.cells
    have := hno q.1 c' hc' (by simp [Rec.w, hcM']) h2.pos
    have : q.1 ≠ f := by simpa using hq2
    omega
  · obtain ⟨b', hb'⟩ := hm.pf w hw hEw (by omega)
    exact ⟨b', hkeepX _ hb' (by simp only; omega)⟩
  · exact hm.pu q q' (List.mem_filter.1 hq).1 (List.mem_filter.1 hq').1 h
  · by_cases hkf' : k = f
    · subst hkf'
      rw [hc] at hck; cases hck
      rw [htag, hav]
      simp only [TagRel]
      rw [hval o d hok hdk, hcm]
      have hr : R g' (av g.M.length) (vl (g'.β g.M.length)) := hfr.rel (by simp [g'])
      simpa [g'] using hr
    · have hold := hm.done k o ck d hok hck hdk hlk fun h => by
        have := hkf h
        rcases Nat.lt_or_ge k p with h' | h'
        · exact h'
        · exfalso
          obtain ⟨b', hb'⟩ := hm.pf k h hlk h'
          obtain ⟨_, h2⟩ := hm.pd _ hb'
          obtain ⟨_, _, _, _, c', hc', _, _, hcM', _⟩ := h2.cells
          have := hno k c' hc' (by simp [Rec.w, hcM']) h'
          omega
      cases hct : ck.tag with
      | none => rw [hct] at hold; exact R.keep0 k0 hold
      | some τ => rw [hct] at hold; exact ⟨fun hy => (hold.1 hy).keep0 k0, hold.2⟩

/-- As far as it goes. -/
theorem mid_max {ops : Array Oper} {recs : List Rec} {fs : List Nat} {M M1 : List AObj} {A0 A1 : Env} {n : Nat} {a0 : Act} {g0 : G} (hrun : runR ty Γ ops ops.toList A0 M = some (recs, A1, M1))
    (hD : DrawOk ops recs fs n) (hx0 : ∀ x, g0.X x → x.block < g0.w.heap.size) {E : Array Bool} {a : Act} : ∀ (m : Nat) {p : Nat} {pend : List (Nat × Nat)} {g : G}, recs.length - p ≤ m → MidP ops recs fs M n a0 g0 A0 E a p pend g →
    ∃ p' pend' g', g'.w = g.w ∧ MidP ops recs fs M n a0 g0 A0 E a p' pend' g' ∧ ∀ f ∈ fs, E.getD f true = true → p' ≤ f → ∃ w cw, recs[w]? = some cw ∧ cw.w = true ∧ p' ≤ w ∧ w < f ∧ E.getD w true = false := by
  intro m
  induction m with
  | zero =>
    intro p pend g hl hm
    refine ⟨p, pend, g, rfl, hm, fun f hf hE hpf => ?_⟩
    obtain ⟨b, hb⟩ := hm.pf f hf hE hpf
    obtain ⟨_, h2⟩ := hm.pd _ hb
    obtain ⟨_, _, _, _, c, hc, _⟩ := h2.cells
    have := llt_of_get hc
    simp only at this
    omega
  | succ m ih =>
    intro p pend g hl hm
    by_cases hex : ∃ f ∈ fs, E.getD f true = true ∧ p ≤ f ∧ ∀ (w : Nat) cw, recs[w]? = some cw → cw.w = true → p ≤ w → f ≤ w
    · obtain ⟨f, hf, hE, hpf, hno⟩ := hex
      obtain ⟨g', hw, hm'⟩ := mid_advance hrun hD hx0 hm hf hE hpf hno
      obtain ⟨p2, pend2, g2, hw2, hm2, hmax⟩ := ih (by omega) hm'
      exact ⟨p2, pend2, g2, hw2.trans hw, hm2, hmax⟩
    · refine ⟨p, pend, g, rfl, hm, fun f => ?_⟩
      induction f using Nat.strongRecOn with
      | _ f ihf =>
        intro hf hE hpf
        have hne : ¬ ∀ (w : Nat) cw, recs[w]? = some cw → cw.w = true → p ≤ w → f ≤ w := fun h => hex ⟨f, hf, hE, hpf, h⟩
        have hw : ∃ (w : Nat) (cw : Rec), recs[w]? = some cw ∧ cw.w = true ∧ p ≤ w ∧ w < f := by
          apply Classical.byContradiction
          intro h
          refine hne fun w cw hcw hww hpw => ?_
          rcases Nat.lt_or_ge w f with h' | h'
          · exact absurd ⟨w, cw, hcw, hww, hpw, h'⟩ h
          · exact h'
        obtain ⟨w, cw, hcw, hww, hpw, hwf⟩ := hw
        cases hEw : E.getD w true with
        | false => exact ⟨w, cw, hcw, hww, hpw, hwf, hEw⟩
        | true =>
          by_cases hwfs : w ∈ fs
          · obtain ⟨w', cw', h1, h2, h3, h4, h5⟩ := ihf w hwf hwfs hEw hpw
            exact ⟨w', cw', h1, h2, h3, by omega, h5⟩
          · have := (hm.wr w cw hcw hww hwfs).1 hEw
            omega

/-- An alloc ahead of its place, or at it. -/
theorem mid_float (hty : TyOk P ty) {ops : Array Oper} {recs : List Rec} {fs : List Nat} {M M1 : List AObj} {A0 A1 : Env} {n : Nat} {a0 : Act} {g0 : G} (hrun : runR ty Γ ops ops.toList A0 M = some (recs, A1, M1))
    (hD : DrawOk ops recs fs n) {E : Array Bool} {a : Act} {p : Nat} {pend : List (Nat × Nat)} {g : G} (hm : MidP ops recs fs M n a0 g0 A0 E a p pend g)
    {i : Nat} {Q : Exit → Act → World → Prop} {K : Act → World → Prop} (hi : i ∈ Region.ready .any ops E) (hif : i ∈ fs) (hK : ∀ a' w', Mid ops recs fs M n a0 g0 A0 (E.setIfInBounds i true) a' w' → K a' w') : wpOp P ops Q i K a g.w := by
  obtain ⟨hun, o, ho, hall⟩ := mem_ready.1 hi
  have hlen : recs.length = ops.size := by have := run_len hrun; simpa using this
  have hisz : i < ops.size := lt_of_get ho
  have hc0 : ∃ c, recs[i]? = some c := ⟨recs[i], by simp [hlen, hisz]⟩
  obtain ⟨c, hc⟩ := hc0
  have hrec := run_rec hrun (k := i) (o := o) (c := c) (by simpa using ho) hc
  obtain ⟨htag, _, _, hvs, hev, htM⟩ := recOf_spec hrec
  obtain ⟨o', d, ho', hop, hgu, hdst⟩ := hD.fl i hif
  rw [ho] at ho'; cases ho'
  have hct : c.tag = none := by
    unfold tagOf at htag
    rw [hgu] at htag
    simp only [Option.some.injEq] at htag
    exact htag.symm
  obtain ⟨av, vl, ob, x0, hfr, hav, hoM, hrunA⟩ := new_run (P := P) hty hop hev a g.w
  have hwant : Region.wanted o (yielded ops a.tmps) = true := by simp [Region.wanted, hgu]
  have hEi : E.getD i true = false := hun
  have hEset : ∀ k, k ≠ i → (E.setIfInBounds i true).getD k true = E.getD k true := fun k hk => getD_set_ne true (Ne.symm hk)
  have hEi' : (E.setIfInBounds i true).getD i true = true := by
    have : i < E.size := by rw [hm.size]; exact hisz
    simp [Array.getD, this]
  have hpi : p ≤ i := by
    rcases Nat.lt_or_ge i p with h | h
    · have := hm.fl i hif h; rw [hEi] at this; cases this
    · exact h
  let w' : World := { g.w with heap := g.w.heap.push x0 }
  have hW : w'.heap = g.w.heap.push x0 := rfl
  let v : Value := vl g.w.heap.size
  let pend' := (i, g.w.heap.size) :: pend
  let g' : G := ⟨g.M, g.β, g.ρ, w', asideX g0.X pend'⟩
  have hput : ∀ t', (a.put o.dst v).tmps.getD t' undef = if t' = d then v else a.tmps.getD t' undef := fun t' => by
    rw [hdst]; exact getD_put (by rw [hm.tsize]; exact hD.inb i o d ho hdst)
  have hX' : ∀ x, g'.X x → g.X x ∨ x.block = g.w.heap.size := by
    rintro x (h | ⟨q, hq, h⟩)
    · left; rw [hm.gx]; exact .inl h
    · rcases List.mem_cons.1 hq with rfl | hq
      · right; exact h.symm
      · left; rw [hm.gx]; exact .inr ⟨q, hq, h⟩
  have hXi : ∀ x, g.X x → g'.X x := by
    intro x h
    rw [hm.gx] at h
    rcases h with h | ⟨q, hq, h⟩
    · exact .inl h
    · exact .inr ⟨q, List.mem_cons_of_mem _ hq, h⟩
  have hregM : ∀ x, g'.regM x → g.regM x := fun x h => h
  have hreg : ∀ x, g'.reg x → g.reg x ∨ x.block = g.w.heap.size := by
    rintro x (h | h)
    · exact (hX' x h).imp .inl id
    · exact .inl (.inr h)
  have k1 : Keep g g' := by
    refine ⟨⟨Nat.le_refl _, fun _ _ => rfl, fun _ _ e h => ⟨e, h, Nat.le_refl _, fun _ => rfl⟩, by simp [g', w'], fun x y hy _ => (cell_push hW (cell_lt hy)).trans hy, fun x hx hr h => ?_, fun b hb _ => heap_push hW hb, ⟨rfl, rfl⟩⟩, hXi, fun x hx _ => ⟨cell_push hW hx, frozen_push hW hx⟩, fun b hb _ => heap_push hW hb⟩
    rcases hreg x h with h | h
    · exact hr h
    · omega
  have hsz : w'.heap.size = g.w.heap.size + 1 := by simp [w']
  have sim : Sim g' := by
    have s := hm.sim
    refine ⟨s.fct.keep k1, fun j cells hj => ?_, fun j u pos hj => (heap_push hW (iter_lt s hj)).trans (s.iter j u pos hj), fun q e hq k hk => ?_, s.disj, fun x hx => ?_, fun x hx h => ?_, fun q es hq => ?_, fun q es vis cur t hq => ?_, fun q φ hq => ?_, fun q P cur hq => ?_, fun q z els hq => ?_⟩
    · obtain ⟨ys, T', h1, h2, h3, h4⟩ := s.blk j cells hj
      exact ⟨ys, T', (heap_push hW (blk_lt s hj)).trans h1, h2, fun q hq => (h3 q hq).keep k1, h4⟩
    · obtain ⟨y, h1, h2⟩ := s.room q e hq k hk
      exact ⟨y, (cell_push hW (cell_lt h1)).trans h1, (frozen_push hW (cell_lt h1)).trans h2⟩
    · rcases hreg x hx with h | h
      · have := s.inb x h
        show x.block < w'.heap.size
        omega
      · show x.block < w'.heap.size
        omega
    · rcases hX' x hx with h' | h'
      · exact s.xdis x h' h
      · have := s.inb x (.inr h); omega
    · obtain ⟨o', h1, h2⟩ := s.mapo q es hq
      exact ⟨o', (heap_push hW (mapo_lt s hq)).trans h1, h2.keep k1⟩
    · obtain ⟨t1, t2, o', oi, h1, h2, h3⟩ := s.mapr q es vis cur t hq
      exact ⟨t1, t2, o', oi, (heap_push hW (whole_lt s hq (.inl rfl))).trans h1, (heap_push hW (whole_lt s hq (.inr rfl))).trans h2, h3.keep k1⟩
    · have e1 := heap_push hW (whole_lt s hq (.inl rfl))
      have e2 := heap_push hW (whole_lt s hq (.inr rfl))
      show φ _ _ (w'.heap[g.β q]?) (w'.heap[(g.ρ q).b]?)
      rw [e1, e2]; exact s.opq q φ hq
    · refine s.ownKeep k1.toKeep0 (fun x hx => ?_) hq hq rfl rfl fun b hb => heap_push hW (whole_lt s hq hb)
      rcases hreg x hx with h | h
      · have := s.inb x h
        show x.block < w'.heap.size
        omega
      · show x.block < w'.heap.size
        omega
    · exact (s.arr q z els hq).keep0 k1.toKeep0 fun hne => heap_push hW (whole_lt s hq ⟨hne, rfl⟩)
  have hmid : MidP ops recs fs M n a0 g0 A0 (E.setIfInBounds i true) (a.put o.dst v) p pend' g' := by
    refine ⟨by simp [hm.size], ?_, hm.ple, hm.isp, hm.mem, fun w cw hcw hww hwf => ?_, fun w hw hwp => ?_, rfl, fun q hq => ?_, fun w hw hEw hwp => ?_, fun q q' hq hq' h => ?_, sim, hm.keep.trans k1, by rw [size_put]; exact hm.tsize, by rw [defers_put]; exact hm.defs, ?_, ?_⟩
    · intro k ok hok hlk e he hb
      by_cases hki : k = i
      · subst hki
        rw [ho] at hok; cases hok
        have := hall e he hb
        have hlt := hD.back k o e ho he hb
        rw [getD_set_ne false (by omega)]; exact this
      · rw [hEset k hki] at hlk
        have := hm.down k ok hok hlk e he hb
        by_cases hei : e.on = i
        · rw [hei] at this
          rw [listed_iff hm.size hisz, hEi] at this; cases this
        · rw [getD_set_ne false (Ne.symm hei)]; exact this
    · rw [hEset w (fun h => hwf (h ▸ hif))]; exact hm.wr w cw hcw hww hwf
    · rw [hEset w (by omega)]; exact hm.fl w hw hwp
    · rcases List.mem_cons.1 hq with rfl | hq
      · refine ⟨hif, hEi', hpi, hm.keep.size, by simp only; rw [hsz]; omega, ⟨av, vl, ob, x0, c, hc, hct, hav, hoM, heap_push_new hW, hfr, fun ok dk hok hdk => ?_⟩⟩
        rw [ho] at hok; cases hok
        rw [hdst] at hdk; cases hdk
        rw [hput]; simp [v]
      · obtain ⟨h1, h2⟩ := hm.pd q hq
        have hqi : q.1 ≠ i := fun h => by have := h2.listed; rw [h, hEi] at this; cases this
        obtain ⟨av', vl', ob', x', c', e1, e2, e3, e4, e5, e6, e7⟩ := h2.cells
        refine ⟨h1, by rw [hEset _ hqi]; exact h2.listed, h2.pos, h2.old, Nat.lt_of_lt_of_le h2.new (by rw [hsz]; omega), ⟨av', vl', ob', x', c', e1, e2, e3, e4, (heap_push hW h2.new).trans e5, e6, fun ok dk hok hdk => ?_⟩⟩
        rw [hput, if_neg]
        · exact e7 ok dk hok hdk
        · intro h; subst h
          exact hqi (hD.dist q.1 i ok o dk hok ho hdk hdst)
    · by_cases hwi : w = i
      · subst hwi; exact ⟨_, List.mem_cons_self⟩
      · rw [hEset w hwi] at hEw
        obtain ⟨b, hb⟩ := hm.pf w hw hEw hwp
        exact ⟨b, List.mem_cons_of_mem _ hb⟩
    · have hne : ∀ q ∈ pend, q.1 ≠ i ∧ q.2 ≠ g.w.heap.size := fun q hq => by
        obtain ⟨_, h2⟩ := hm.pd q hq
        exact ⟨fun h => by (have := h2.listed; rw [h, hEi] at this; cases this), fun h => by (have := h2.new; omega)⟩
      rcases List.mem_cons.1 hq with rfl | hq <;> rcases List.mem_cons.1 hq' with rfl | hq'
      · rfl
      · rcases h with h | h
        · exact absurd h.symm (hne q' hq').1
        · exact absurd h.symm (hne q' hq').2
      · rcases h with h | h
        · exact absurd h (hne q hq).1
        · exact absurd h (hne q hq).2
      · exact hm.pu q q' hq hq' h
    · intro k ok ck d' hok hck hdk hlk hkf
      have hki : k ≠ i := fun h => by subst h; have := hkf hif; omega
      rw [hEset k hki] at hlk
      have hold := hm.done k ok ck d' hok hck hdk hlk hkf
      have hdd : d' ≠ d := fun h => by subst h; exact hki (hD.dist k i ok o d' hok ho hdk hdst)
      have hv : (a.put o.dst v).tmps.getD d' undef = a.tmps.getD d' undef := by rw [hput]; simp [hdd]
      rw [tagRel_eq] at hold ⊢
      rw [hv]
      cases hck' : ck.tag with
      | none => rw [hck'] at hold; exact R.keep k1 hold
      | some τ =>
        rw [hck'] at hold
        have hne : τ.1 ≠ d := by
          intro he
          have hreck := run_rec hrun (k := k) (o := ok) (c := ck) (by simpa using hok) hck
          obtain ⟨htk, _, _, hvsk, _, _⟩ := recOf_spec hreck
          have hin : d ∈ ck.vs.map (·.1) := by
            rw [hvsk, hck']
            simp [visOf, he]
          rcases hD.seen k i ok o ck d hok ho hck hdst (.inr hin) (Ne.symm hki) with ⟨_, h⟩ | ⟨_, h⟩
          · have := down_hangs hm.down hm.size k ok hok (hm.down k ok hok hlk) i h
            rw [listed_iff hm.size hisz, hEi] at this; cases this
          · rw [hck'] at htk
            unfold tagOf at htk
            split at htk
            · cases htk
            · rename_i j b hg
              split at htk
              · rename_i t' ht'
                cases htk
                obtain ⟨hh, _⟩ := hD.own k ok j b t' hok hg ht'
                cases hoj : ops[j]? with
                | none => simp [hoj] at ht'
                | some oj =>
                  simp only [hoj, Option.bind_some] at ht'
                  simp only at he; subst he
                  have hji := hD.dist j i oj o t' hoj ho ht' hdst
                  subst hji
                  have := down_hangs hm.down hm.size k ok hok (hm.down k ok hok hlk) j hh
                  rw [listed_iff hm.size hisz, hEi] at this; cases this
              · cases htk
        simp only [TagR] at hold ⊢
        rw [hput, if_neg hne]
        exact ⟨fun hy => (hold.1 hy).keep k1, hold.2⟩
    · intro t' ht'
      have hti : o.dst ≠ some t' := ht' i o ho hEi'
      have hold := hm.same t' fun k ok hok hlk => ht' k ok hok (by
        by_cases hki : k = i
        · subst hki; exact hEi'
        · rw [hEset k hki]; exact hlk)
      rw [hput, if_neg (fun h => hti (by rw [hdst, h]))]; exact hold
  unfold wpOp
  simp only [ho, hwant, if_true]
  left
  unfold Oper.wp
  rw [hrunA]
  exact hK _ _ ⟨p, pend', g', rfl, hmid⟩

/-- Any other operation. -/
theorem mid_step (hty : TyOk P ty) (hΓ : GamOk P Γ) {ops : Array Oper} {recs : List Rec} {M M1 : List AObj} {A0 A1 : Env} {n : Nat} {a0 : Act} {g0 : G} (hrun : runR ty Γ ops ops.toList A0 M = some (recs, A1, M1))
    (hob : oblsR recs) {fs : List Nat} (hD : DrawOk ops recs fs n) (hX : Cross ty Γ ops recs M) (hA0 : EnvRel g0 A0 a0.tmps) (hnt : noTags A0 = true) {E : Array Bool} {a : Act} {p : Nat} {pend : List (Nat × Nat)} {g : G} (hm : MidP ops recs fs M n a0 g0 A0 E a p pend g)
    (hmax : ∀ f ∈ fs, E.getD f true = true → p ≤ f → ∃ w cw, recs[w]? = some cw ∧ cw.w = true ∧ p ≤ w ∧ w < f ∧ E.getD w true = false)
    {i : Nat} {Q : Exit → Act → World → Prop} {K : Act → World → Prop} (hi : i ∈ Region.ready .any ops E) (hif : i ∉ fs) (hK : ∀ a' w', Mid ops recs fs M n a0 g0 A0 (E.setIfInBounds i true) a' w' → K a' w') : wpOp P ops Q i K a g.w := by
  obtain ⟨hun, o, ho, hall⟩ := mem_ready.1 hi
  have hlen : recs.length = ops.size := by have := run_len hrun; simpa using this
  have hisz : i < ops.size := lt_of_get ho
  have hc0 : ∃ c, recs[i]? = some c := ⟨recs[i], by simp [hlen, hisz]⟩
  obtain ⟨c, hc⟩ := hc0
  have hrec := run_rec hrun (k := i) (o := o) (c := c) (by simpa using ho) hc
  obtain ⟨htag, _, _, hvs, hev, htM⟩ := recOf_spec hrec
  have hcob : holds c.A c.vs c.out.obl := oblsR_iff.1 hob c (List.mem_of_getElem? hc)
  have hEi : E.getD i true = false := hun
  have hlist : ∀ m, hangs (cloOf ops) i m = true → E.getD m false = true := down_hangs hm.down hm.size i o ho (fun e he hb => hall e he hb)
  -- what hangs on i is not listed
  have hnot : ∀ m om, ops[m]? = some om → hangs (cloOf ops) m i = true → E.getD m true = false := by
    intro m om hom hh
    cases hEm : E.getD m true with
    | false => rfl
    | true =>
      have := down_hangs hm.down hm.size m om hom (hm.down m om hom hEm) i hh
      rw [listed_iff hm.size hisz] at this
      rw [hEi] at this; cases this
  have hp1 := hm.ple
  have hp2 := hm.isp
  have hp3 := hm.mem
  have hup : ∀ (w : Nat) cw, recs[w]? = some cw → cw.w = true → w < p → E.getD w true = true := fun w cw hcw hww h => by
    by_cases hw : w ∈ fs
    · exact hm.fl w hw h
    · exact (hm.wr w cw hcw hww hw).2 h
  have hlw : ∀ (w : Nat) cw, recs[w]? = some cw → hangs (cloOf ops) i w = true → E.getD w true = true := fun w cw hcw h => by
    have hl := hlist w h
    rw [listed_iff hm.size (by rw [← hlen]; exact llt_of_get hcw)] at hl; exact hl
  -- what i hangs on has had its turn
  have hdn : ∀ (w : Nat) cw, recs[w]? = some cw → cw.w = true → hangs (cloOf ops) i w = true → w < p := fun w cw hcw hww h => by
    have hl := hlw w cw hcw h
    by_cases hw : w ∈ fs
    · rcases Nat.lt_or_ge w p with h' | h'
      · exact h'
      · obtain ⟨u, cu, hcu, huw, _, hlt, hun'⟩ := hmax w hw hl h'
        have := hlw u cu hcu (hD.us i w u cu hw hisz h hcu huw hlt)
        rw [hun'] at this; cases this
    · exact (hm.wr w cw hcw hww hw).1 hl
  -- the environment, as far as it is seen
  let S : List Nat := (o.op.operands.toList.filterMap fun | .tmp t => some t | _ => none) ++ c.vs.map (·.1)
  have hS : ∀ t, t ∈ S ↔ (Operand.tmp t ∈ o.op.operands ∨ t ∈ c.vs.map (·.1)) := by
    intro t
    simp only [S, List.mem_append, List.mem_filterMap]
    constructor
    · rintro (⟨x, hx, he⟩ | h)
      · left
        cases x <;> simp at he
        subst he; simpa using hx
      · exact .inr h
    · rintro (h | h)
      · left; exact ⟨.tmp t, by simpa using h, rfl⟩
      · exact .inr h
  let A' : Env := c.A.filter fun e => S.contains e.t
  have hA' : ∀ t, ent A' t = if S.contains t then ent c.A t else none := by
    intro t
    show ent (c.A.filter fun e => S.contains e.t) t = _
    induction c.A with
    | nil => simp [ent]
    | cons e r ih =>
      simp only [List.filter_cons]
      by_cases he : S.contains e.t
      · simp only [he, if_true, ent]
        by_cases ht : e.t = t
        · subst ht
          have hm' : e.t ∈ S := by simpa using he
          simp [hm']
        · simp only [ht, if_false]; exact ih
      · simp only [he, if_false, Bool.false_eq_true, ih]
        by_cases ht : e.t = t
        · subst ht; simp only [he, if_false, Bool.false_eq_true]
        · simp only [ent, ht, if_false]
  have hrel : EnvRel g A' a.tmps := by
    intro t tag av he
    rw [hA'] at he
    split at he
    · rename_i hSt
      have hseen := (hS t).1 (by simpa using hSt)
      obtain ⟨hno, hyes⟩ := run_env hrun hc t
      by_cases hw : ∃ m om, m < i ∧ ops[m]? = some om ∧ om.dst = some t
      · obtain ⟨m, om, hmi, hom, hdm⟩ := hw
        have hmc : ∃ cm, recs[m]? = some cm := ⟨recs[m]'(by rw [hlen]; exact lt_of_get hom), by simp [hlen, lt_of_get hom]⟩
        obtain ⟨cm, hcm⟩ := hmc
        have e1 := hyes m om cm hmi (by simpa using hom) hcm hdm (fun m' o' h3 h4 h5 h6 => by
          have := hD.dist m m' om o' t hom (by simpa using h5) hdm h6
          omega)
        rw [e1] at he
        cases he
        have hl : E.getD m true = true := by
          rcases hD.seen i m o om c t ho hom hc hdm hseen (by omega) with ⟨_, h⟩ | ⟨h, _⟩
          · have := hlist m h
            rw [listed_iff hm.size (lt_of_get hom)] at this; exact this
          · omega
        refine hm.done m om cm t hom hcm hdm hl fun hmf => ?_
        rcases hD.seen i m o om c t ho hom hc hdm hseen (by omega) with ⟨_, h⟩ | ⟨h, _⟩
        · obtain ⟨om', _, hom', hop', _⟩ := hD.fl m hmf
          rw [hom] at hom'; cases hom'
          have hrecm := run_rec hrun (k := m) (o := om) (c := cm) (by simpa using hom) hcm
          obtain ⟨_, _, _, _, hevm, _⟩ := recOf_spec hrecm
          exact hdn m cm hcm (new_w hop' hevm) h
        · omega
      · have e1 := hno fun m om hmi hom hdm => hw ⟨m, om, hmi, by simpa using hom, hdm⟩
        rw [e1] at he
        have hst : a.tmps.getD t undef = a0.tmps.getD t undef := by
          refine hm.same t fun k ok hok hlk hdk => ?_
          rcases Nat.lt_trichotomy k i with h | h | h
          · exact hw ⟨k, ok, h, hok, hdk⟩
          · subst h; rw [hEi] at hlk; cases hlk
          · rcases hD.seen i k o ok c t ho hok hc hdk hseen (by omega) with ⟨h', _⟩ | ⟨_, h'⟩
            · omega
            · have := hnot k ok hok h'
              rw [hlk] at this; cases this
        have h0 := hA0 t tag av he
        have : tag = none := by
          have := List.all_eq_true.1 hnt _ (ent_mem he)
          simpa using this
        subst this
        simp only [TagRel] at h0 ⊢
        rw [hst]; exact h0.keep hm.keep
    · cases he
  have hvs' : c.vs = visOf A' 5 c.tag := by
    rw [hvs]
    refine visOf_congr 5 c.tag fun q hq => ?_
    rw [hA']
    have : S.contains q.1 = true := by
      simp only [List.contains_iff_mem]
      exact (hS q.1).2 (.inr (by rw [hvs]; exact List.mem_map.2 ⟨q, hq, rfl⟩))
    rw [this]; rfl
  have hcong : ∀ M', evOp ty Γ A' c.vs M' o = evOp ty Γ c.A c.vs M' o := fun M' => evOp_congr fun t ht => by
    rw [hA']
    have : S.contains t = true := by
      simp only [List.contains_iff_mem]
      exact (hS t).2 (.inl ht)
    rw [this]; rfl
  -- what it comes to at this memory
  have hval : ∃ out, evOp ty Γ A' c.vs g.M o = some out ∧ out.av = c.out.av ∧ (∀ τ, c.tag = some τ → out.M = none ∨ ent c.A τ.1 = some (none, .lit (.bool τ.2))) ∧ holds c.A c.vs out.obl ∧
      ((c.w = false ∧ out.M = none) ∨ (c.w = true ∧ out.M = c.out.M)) := by
    rw [hcong]
    by_cases hMM : g.M = c.M
    · refine ⟨c.out, by rw [hMM]; exact hev, rfl, htM, hcob, ?_⟩
      cases hw : c.w with
      | true => exact .inr ⟨rfl, rfl⟩
      | false => left; exact ⟨rfl, by simpa [Rec.w] using hw⟩
    · cases hw : c.w with
      | true =>
        -- an operation that turns the memory comes up at its own place alone
        exfalso
        apply hMM
        have hpi : p ≤ i := by
          rcases Nat.lt_or_ge i p with h | h
          · have := hup i c hc hw h; rw [hEi] at this; cases this
          · exact h
        obtain ⟨q, q1, q2, q3, q4⟩ := (run_mem hrun).1 hc
        have hqp : p = q := by
          apply Nat.le_antisymm
          · cases p with
            | zero => omega
            | succ p =>
              obtain ⟨cp, hcp, hcpw⟩ := hp2
              have := q4 p cp (by omega) hcp hcpw; omega
          · cases q with
            | zero => omega
            | succ q =>
              obtain ⟨cq, hcq, hcqw⟩ := q2
              have hqi : q < i := by omega
              have hh := hD.ww q i cq c hcq hc hcqw hw hqi hif
              have := hdn q cq hcq hcqw hh
              omega
        rw [hp3, hqp, q3]
      | false =>
        have hs := hX i p c o hc ho hw hp2 (fun w cw hcw hww hh => hdn w cw hcw hww hh) (fun w cw hcw hww hh => by
          have how : ∃ ow, ops[w]? = some ow := ⟨ops[w]'(by rw [← hlen]; exact llt_of_get hcw), by simp [← hlen, llt_of_get hcw]⟩
          obtain ⟨ow, how⟩ := how
          have := hnot w ow how hh
          rcases Nat.lt_or_ge w p with h | h
          · rw [hup w cw hcw hww h] at this; cases this
          · exact h) hp1 (by rw [← hp3]; exact hMM)
        obtain ⟨out, s1, s2, s3, s4⟩ := hs
        rw [hp3]
        exact ⟨out, s1, s2, fun _ _ => .inl s3, s4, .inl ⟨rfl, s3⟩⟩
  obtain ⟨out, hev', hav, htM', hob', hw'⟩ := hval
  have hobA' : holds A' c.vs out.obl := by
    have : ∀ vs' : List (Nat × Bool), (∀ q ∈ vs', q ∈ c.vs) → holds c.A vs' out.obl → holds A' vs' out.obl := by
      intro vs'
      induction vs' with
      | nil => intro _ h; exact h
      | cons q r ih =>
        intro hsub h
        have heq : ent A' q.1 = ent c.A q.1 := by
          rw [hA']
          have : S.contains q.1 = true := by
            simp only [List.contains_iff_mem]
            exact (hS q.1).2 (.inr (List.mem_map.2 ⟨q, hsub q (by simp), rfl⟩))
          rw [this]; rfl
        have ih' := ih fun z hz => hsub z (List.mem_cons_of_mem _ hz)
        obtain ⟨t, b⟩ := q
        simp only at heq
        unfold holds at h ⊢
        rw [heq]
        split at h
        · exact fun hp => ih' (h hp)
        · exact ih' h
    exact this c.vs (fun _ h => h) hob'
  have htM'' : ∀ τ, c.tag = some τ → out.M = none ∨ ent A' τ.1 = some (none, .lit (.bool τ.2)) := fun τ hτ => (htM' τ hτ).imp id fun he => by
    rw [hA']
    have : S.contains τ.1 = true := by
      simp only [List.contains_iff_mem]
      refine (hS τ.1).2 (.inr ?_)
      rw [hvs, hτ]
      simp [visOf]
    rw [this]; exact he
  have hstep := step_spec (Q := Q) (next := K) hty hΓ htag hvs' hev' htM'' hobA' hm.sim hrel (fun v g' s' k' hXg hM' hR => by
    refine hK (a.put o.dst v) g'.w ?_
    have hEset : ∀ k, k ≠ i → (E.setIfInBounds i true).getD k true = E.getD k true := fun k hk => getD_set_ne true (Ne.symm hk)
    have hEi' : (E.setIfInBounds i true).getD i true = true := by
      have : i < E.size := by rw [hm.size]; exact hisz
      simp [Array.getD, this]
    have hput : ∀ d, o.dst = some d → ∀ t, (a.put o.dst v).tmps.getD t undef = if t = d then v else a.tmps.getD t undef := fun d hd t => by
      rw [hd]; exact getD_put (by rw [hm.tsize]; exact hD.inb i o d ho hd)
    have hplace : ∃ p2, p2 ≤ recs.length ∧ isP recs p2 ∧ g'.M = memAt M recs p2 ∧
        (∀ (w : Nat) cw, recs[w]? = some cw → cw.w = true → w ∉ fs → ((E.setIfInBounds i true).getD w true = true ↔ w < p2)) ∧
        (∀ w ∈ fs, w < p2 → (E.setIfInBounds i true).getD w true = true) ∧ (∀ q ∈ pend, p2 ≤ q.1) ∧ (∀ w ∈ fs, p2 ≤ w → p ≤ w) ∧
        (∀ k ∈ fs, (E.setIfInBounds i true).getD k true = true → k < p2 → k < p) := by
      rcases hw' with ⟨hcw, hoM⟩ | ⟨hcw, hoM⟩
      · refine ⟨p, hp1, hp2, by rw [hM', hoM]; exact hp3, fun w cw hcw' hww hwf => ?_, fun w hw hwp => ?_, fun q hq => (hm.pd q hq).2.pos, fun w _ h => h, fun k _ _ h => h⟩
        · have hwi : w ≠ i := fun h => by subst h; rw [hc] at hcw'; cases hcw'; rw [hcw] at hww; cases hww
          rw [hEset w hwi]; exact hm.wr w cw hcw' hww hwf
        · rw [hEset w (fun h => hif (h ▸ hw))]; exact hm.fl w hw hwp
      · have hcM : ∃ m, c.out.M = some m := Option.isSome_iff_exists.1 hcw
        obtain ⟨m, hcm⟩ := hcM
        have hbef : ∀ (w : Nat) cw, recs[w]? = some cw → cw.w = true → w < i → w < p := fun w cw hcw' hww hlt => hdn w cw hcw' hww (hD.ww w i cw c hcw' hc hww hcw hlt hif)
        have hflw : ∀ w ∈ fs, ∃ cw, recs[w]? = some cw ∧ cw.w = true := fun w hw => by
          obtain ⟨ow, dw, how, how2, _⟩ := hD.fl w hw
          have hcw' : ∃ cw, recs[w]? = some cw := ⟨recs[w]'(by rw [hlen]; exact lt_of_get how), by simp [hlen, lt_of_get how]⟩
          obtain ⟨cw, hcw'⟩ := hcw'
          have hrecw := run_rec hrun (k := w) (o := ow) (c := cw) (by simpa using how) hcw'
          obtain ⟨_, _, _, _, hevw, _⟩ := recOf_spec hrecw
          exact ⟨cw, hcw', new_w how2 hevw⟩
        have hpi : p ≤ i := by
          rcases Nat.lt_or_ge i p with h | h
          · have := hup i c hc hcw h; rw [hEi] at this; cases this
          · exact h
        refine ⟨i + 1, by rw [hlen]; omega, ⟨c, hc, hcw⟩, by rw [hM', hoM, hcm]; simp [memAt, hc, hcm], fun w cw hcw' hww hwf => ?_, fun w hw hwp => ?_, fun q hq => ?_, fun w hw h => by omega, fun k hk _ hlt => ?_⟩
        · by_cases hwi : w = i
          · subst hwi; simp [hEi']
          · rw [hEset w hwi]
            constructor
            · intro hl
              rcases Nat.lt_trichotomy w i with h | h | h
              · omega
              · exact absurd h hwi
              · have how : ∃ ow, ops[w]? = some ow := ⟨ops[w]'(by rw [← hlen]; exact llt_of_get hcw'), by simp [← hlen, llt_of_get hcw']⟩
                obtain ⟨ow, how⟩ := how
                have := hnot w ow how (hD.ww i w c cw hc hcw' hcw hww h hwf)
                rw [hl] at this; cases this
            · intro hlt
              exact hup w cw hcw' hww (hbef w cw hcw' hww (by omega))
        · have hwi : w ≠ i := fun h => hif (h ▸ hw)
          obtain ⟨cw, hcw', hww⟩ := hflw w hw
          rw [hEset w hwi]
          exact hup w cw hcw' hww (hbef w cw hcw' hww (by omega))
        · obtain ⟨h1, h2⟩ := hm.pd q hq
          obtain ⟨cw, hcw', hww⟩ := hflw q.1 h1
          have hwi : q.1 ≠ i := fun h => hif (h ▸ h1)
          rcases Nat.lt_or_ge q.1 (i + 1) with h | h
          · have := hbef q.1 cw hcw' hww (by omega)
            have := h2.pos; omega
          · exact h
        · obtain ⟨cw, hcw', hww⟩ := hflw k hk
          have hki : k ≠ i := fun h => hif (h ▸ hk)
          exact hbef k cw hcw' hww (by omega)
    obtain ⟨p2, hq1, hq2, hq3, hq4, hq5, hq6, hq7, hq8⟩ := hplace
    refine ⟨p2, pend, g', rfl, ⟨by simp [hm.size], ?_, hq1, hq2, hq3, hq4, hq5, by rw [hXg]; exact hm.gx, fun q hq => ?_, fun w hw hEw hwp => ?_, hm.pu, s', hm.keep.trans k', by rw [size_put]; exact hm.tsize, by rw [defers_put]; exact hm.defs, ?_, ?_⟩⟩
    · intro k ok hok hlk e he hb
      by_cases hki : k = i
      · subst hki
        rw [ho] at hok; cases hok
        have := hall e he hb
        have hlt := hD.back k o e ho he hb
        rw [getD_set_ne false (by omega)]; exact this
      · rw [hEset k hki] at hlk
        have := hm.down k ok hok hlk e he hb
        by_cases hei : e.on = i
        · rw [hei] at this
          rw [listed_iff hm.size hisz, hEi] at this; cases this
        · rw [getD_set_ne false (Ne.symm hei)]; exact this
    · obtain ⟨h1, h2⟩ := hm.pd q hq
      have hqi : q.1 ≠ i := fun h => hif (h ▸ h1)
      obtain ⟨av', vl', ob', x', c', e1, e2, e3, e4, e5, e6, e7⟩ := h2.cells
      refine ⟨h1, by rw [hEset _ hqi]; exact h2.listed, hq6 q hq, h2.old, Nat.lt_of_lt_of_le h2.new k'.size, ⟨av', vl', ob', x', c', e1, e2, e3, e4, ?_, e6, fun ok dk hok hdk => ?_⟩⟩
      · rw [k'.xblk q.2 h2.new fun off => by rw [hm.gx]; exact .inr ⟨q, hq, rfl⟩]; exact e5
      · cases hod : o.dst with
        | none => exact e7 ok dk hok hdk
        | some d' =>
          have hdd : dk ≠ d' := fun h => by subst h; exact hqi (hD.dist q.1 i ok o dk hok ho hdk hod)
          rw [← hod, hput d' hod, if_neg hdd]
          exact e7 ok dk hok hdk
    · rw [hEset w (fun h => hif (h ▸ hw))] at hEw
      exact hm.pf w hw hEw (hq7 w hw hwp)
    · intro k ok ck d hok hck hdk hlk hkf
      by_cases hki : k = i
      · subst hki
        rw [ho] at hok; cases hok
        rw [hc] at hck; cases hck
        rw [tagRel_eq]
        have hv : (a.put o.dst v).tmps.getD d undef = v := by rw [hput d hdk]; simp
        rw [hv]
        rw [hav] at hR
        cases hct : c.tag with
        | none => rw [hct] at hR; exact hR
        | some τ =>
          rw [hct] at hR htag
          -- the guard's own place is not this one
          have hne : τ.1 ≠ d := by
            intro he
            unfold tagOf at htag
            split at htag
            · cases htag
            · rename_i j b hg
              split at htag
              · rename_i t ht
                cases htag
                exact (hD.own k o j b t ho hg ht).2 (by rw [hdk, ← he])
              · cases htag
          simp only [TagR] at hR ⊢
          rw [hput d hdk, if_neg hne]
          exact hR
      · rw [hEset k hki] at hlk
        have hold := hm.done k ok ck d hok hck hdk hlk fun h => hq8 k h (by rw [hEset k hki]; exact hlk) (hkf h)
        cases hod : o.dst with
        | none =>
          have : a.put none v = a := rfl
          rw [this]
          cases hct : ck.tag with
          | none => rw [hct] at hold; exact R.keep k' hold
          | some τ => rw [hct] at hold; exact ⟨fun hy => (hold.1 hy).keep k', hold.2⟩
        | some d' =>
          have hdd : d ≠ d' := fun h => by subst h; exact hki (hD.dist k i ok o d hok ho hdk hod)
          rw [← hod]
          have hv : (a.put o.dst v).tmps.getD d undef = a.tmps.getD d undef := by rw [hput d' hod]; simp [hdd]
          rw [tagRel_eq] at hold ⊢
          rw [hv]
          cases hct : ck.tag with
          | none => rw [hct] at hold; exact R.keep k' hold
          | some τ =>
            rw [hct] at hold
            have hne : τ.1 ≠ d' := by
              intro he
              have hreck := run_rec hrun (k := k) (o := ok) (c := ck) (by simpa using hok) hck
              obtain ⟨_, _, _, hvsk, _, _⟩ := recOf_spec hreck
              have hin : d' ∈ ck.vs.map (·.1) := by
                rw [hvsk, hct]
                simp [visOf, he]
              rcases hD.seen k i ok o ck d' hok ho hck hod (.inr hin) (Ne.symm hki) with ⟨_, h⟩ | ⟨_, h⟩
              · have := down_hangs hm.down hm.size k ok hok (hm.down k ok hok hlk) i h
                rw [listed_iff hm.size hisz, hEi] at this; cases this
              · -- i would be k's guard, which is listed
                obtain ⟨htk, _⟩ := recOf_spec hreck
                rw [hct] at htk
                unfold tagOf at htk
                split at htk
                · cases htk
                · rename_i j b hg
                  split at htk
                  · rename_i t ht
                    cases htk
                    obtain ⟨hh, _⟩ := hD.own k ok j b t hok hg ht
                    cases hoj : ops[j]? with
                    | none => simp [hoj] at ht
                    | some oj =>
                      simp only [hoj, Option.bind_some] at ht
                      simp only at he; subst he
                      have hji := hD.dist j i oj o t hoj ho ht hod
                      subst hji
                      have := down_hangs hm.down hm.size k ok hok (hm.down k ok hok hlk) j hh
                      rw [listed_iff hm.size hisz, hEi] at this; cases this
                  · cases htk
            simp only [TagR] at hold ⊢
            rw [hput d' hod, if_neg hne]
            exact ⟨fun hy => (hold.1 hy).keep k', hold.2⟩
    · intro t ht
      have hti : o.dst ≠ some t := ht i o ho hEi'
      have hold := hm.same t fun k ok hok hlk => ht k ok hok (by
        by_cases hki : k = i
        · subst hki; exact hEi'
        · rw [hEset k hki]; exact hlk)
      cases hod : o.dst with
      | none => exact hold
      | some d =>
        rw [← hod, hput d hod, if_neg (fun h => hti (by rw [hod, h]))]; exact hold)
  unfold wpOp
  simp only [ho]
  exact hstep
end

section
variable {P : Program} {ty : TyTab} {Γ : Gam}

theorem all_listed {ops : Array Oper} {E : Array Bool} (hE : E.size = ops.size) (hback : ∀ (k : Nat) o e, ops[k]? = some o → e ∈ o.after → Region.binds .any e = true → e.on < k)
    (hr : Region.ready .any ops E = []) : ∀ (k : Nat), k < ops.size → E.getD k true = true := by
  intro k
  induction k using Nat.strongRecOn with
  | _ k ih =>
    intro hk
    cases hEk : E.getD k true with
    | true => rfl
    | false =>
      have ho : ops[k]? = some ops[k] := by simp [hk]
      have : k ∈ Region.ready .any ops E := mem_ready.2 ⟨hEk, _, ho, fun e he hb => by
        have hlt := hback k _ e ho he hb
        have := ih e.on hlt (by omega)
        rw [listed_iff hE (by omega)]; exact this⟩
      rw [hr] at this; cases this

theorem run_drawn (hty : TyOk P ty) (hΓ : GamOk P Γ) {ops : Array Oper} {recs : List Rec} {M M1 : List AObj} {A0 A1 : Env} {n : Nat} {a0 : Act} {g0 : G} (hrun : runR ty Γ ops ops.toList A0 M = some (recs, A1, M1))
    (hob : oblsR recs) {fs : List Nat} (hD : DrawOk ops recs fs n) (hx0 : ∀ x, g0.X x → x.block < g0.w.heap.size) (hX : Cross ty Γ ops recs M) (hA0 : EnvRel g0 A0 a0.tmps) (hnt : noTags A0 = true) {Q : Exit → Act → World → Prop}
    (hQ : ∀ a (g : G), a.tmps.size = n → a.defers = a0.defers → g.M = M1 → g.X = g0.X → Sim g → Keep g0 g → EnvRel g A1 a.tmps → Q .normal a g.w) :
    ∀ (fuel : Nat) (E : Array Bool) (a : Act) (w : World), ((List.range ops.size).filter fun k => !E.getD k true).length ≤ fuel → Mid ops recs fs M n a0 g0 A0 E a w → wpAny P .any ops Q fuel E a w := by
  have hlen : recs.length = ops.size := by have := run_len hrun; simpa using this
  have fin : ∀ (E : Array Bool) (a : Act) (w : World), Mid ops recs fs M n a0 g0 A0 E a w → (∀ (k : Nat), k < ops.size → E.getD k true = true) → Q .normal a w := by
    rintro E a w ⟨p0, pend0, g0', rfl, hm0⟩ hall
    obtain ⟨p, pend, g, hgw, hm, hmax⟩ := mid_max hrun hD hx0 _ (Nat.le_refl _) hm0
    rw [← hgw]
    have hnf : ∀ f ∈ fs, f < p := fun f hf => by
      obtain ⟨of, _, hof, _⟩ := hD.fl f hf
      rcases Nat.lt_or_ge f p with h | h
      · exact h
      · obtain ⟨w, cw, hcw, _, _, _, hun⟩ := hmax f hf (hall f (lt_of_get hof)) h
        rw [hall w (by rw [← hlen]; exact llt_of_get hcw)] at hun; cases hun
    have hpend : pend = [] := by
      cases pend with
      | nil => rfl
      | cons q r =>
        obtain ⟨h1, h2⟩ := hm.pd q (by simp)
        have := hnf q.1 h1; have := h2.pos; omega
    refine hQ a g hm.tsize hm.defs ?_ (by rw [hm.gx, hpend]; exact asideX_nil _) hm.sim hm.keep ?_
    · obtain ⟨q, q1, q2, q3, q4⟩ := (run_mem hrun).2
      have : p = q := by
        apply Nat.le_antisymm
        · cases p with
          | zero => omega
          | succ p =>
            obtain ⟨cp, hcp, hw⟩ := hm.isp
            have := q4 p cp hcp hw; omega
        · cases q with
          | zero => omega
          | succ q =>
            obtain ⟨cq, hcq, hw⟩ := q2
            by_cases hqf : q ∈ fs
            · exact hnf q hqf
            · have := (hm.wr q cq hcq hw hqf).1 (hall q (by rw [← hlen]; exact llt_of_get hcq)); omega
      rw [hm.mem, this, q3]
    · intro t tag av he
      obtain ⟨hno, hyes⟩ := run_env_end hrun t
      by_cases hw : ∃ (m : Nat) (om : Oper), ops[m]? = some om ∧ om.dst = some t
      · obtain ⟨m, om, hom, hdm⟩ := hw
        have hmc : ∃ cm, recs[m]? = some cm := ⟨recs[m]'(by rw [hlen]; exact lt_of_get hom), by simp [hlen, lt_of_get hom]⟩
        obtain ⟨cm, hcm⟩ := hmc
        rw [hyes m om cm (by simpa using hom) hcm hdm fun m' o' h3 h5 h6 => by
          have := hD.dist m m' om o' t hom (by simpa using h5) hdm h6
          omega] at he
        cases he
        exact hm.done m om cm t hom hcm hdm (hall m (lt_of_get hom)) fun h => hnf m h
      · rw [hno fun m om hom hdm => hw ⟨m, om, by simpa using hom, hdm⟩] at he
        have hst := hm.same t fun k ok hok _ hdk => hw ⟨k, ok, hok, hdk⟩
        have h0 := hA0 t tag av he
        have : tag = none := by
          have := List.all_eq_true.1 hnt _ (ent_mem he)
          simpa using this
        subst this
        simp only [TagRel] at h0 ⊢
        rw [hst]; exact h0.keep hm.keep
  intro fuel
  induction fuel with
  | zero =>
    intro E a w hc hm
    have hnil : (List.range ops.size).filter (fun k => !E.getD k true) = [] := List.eq_nil_of_length_eq_zero (by omega)
    have hall : ∀ (k : Nat), k < ops.size → E.getD k true = true := fun k hk => by
      have := List.filter_eq_nil_iff.1 hnil k (by simp [hk])
      simpa using this
    refine ⟨?_, fin E a w hm hall⟩
    cases hr : Region.ready .any ops E with
    | nil => rfl
    | cons i r =>
      have hi : i ∈ Region.ready .any ops E := by rw [hr]; simp
      obtain ⟨h1, o, h2, _⟩ := mem_ready.1 hi
      rw [hall i (lt_of_get h2)] at h1; cases h1
  | succ fuel ih =>
    intro E a w hc hm0
    obtain ⟨p0, pend0, g0', rfl, hm1⟩ := id hm0
    refine ⟨fun hr => fin E a _ hm0 (all_listed hm1.size hD.back hr), fun i hi => ?_⟩
    obtain ⟨p, pend, g, hgw, hm, hmax⟩ := mid_max hrun hD hx0 _ (Nat.le_refl _) hm1
    rw [← hgw]
    have hle : ((List.range ops.size).filter fun k => !(E.setIfInBounds i true).getD k true).length ≤ fuel := ?_
    · by_cases hif : i ∈ fs
      · exact mid_float hty hrun hD hm hi hif fun a' w' hm' => ih _ a' w' hle hm'
      · exact mid_step hty hΓ hrun hob hD hX hA0 hnt hm hmax hi hif fun a' w' hm' => ih _ a' w' hle hm'
    obtain ⟨h1, o, h2, _⟩ := mem_ready.1 hi
    have hisz := lt_of_get h2
    have e : (List.range ops.size).filter (fun k => !(E.setIfInBounds i true).getD k true) = ((List.range ops.size).filter fun k => !E.getD k true).filter fun k => k != i := by
      rw [List.filter_filter]
      apply List.filter_congr
      intro k hk
      by_cases hki : k = i
      · subst hki
        have : k < E.size := by rw [hm.size]; exact hisz
        simp [Array.getD, this]
      · rw [getD_set_ne true (Ne.symm hki)]; simp [hki]
    rw [e]
    have : (((List.range ops.size).filter fun k => !E.getD k true).filter fun k => k != i).length < ((List.range ops.size).filter fun k => !E.getD k true).length := by
      rw [List.length_filter_lt_length_iff_exists]
      exact ⟨i, by simp only [List.mem_filter, List.mem_range]; exact ⟨hisz, by rw [h1]; rfl⟩, by simp⟩
    omega

/-! ### The same, to be asked of a program -/
def infoOf (c : Rec) : Bool × List Nat := (c.w, c.vs.map (·.1))

def textP (info : List (Bool × List Nat)) (k : Nat) : Nat := (List.range k).foldl (fun q w => if (info.getD w (false, [])).1 then w + 1 else q) 0

def isPB (info : List (Bool × List Nat)) : Nat → Bool
  | 0 => true
  | p + 1 => (info.getD p (false, [])).1

def tmpsOf (o : Oper) : List Nat := o.op.operands.toList.filterMap fun | .tmp t => some t | _ => none

def newB : Op → Bool
  | .alloc _ => true
  | .makeMap _ none => true
  | _ => false
theorem newB_spec {o : Op} (h : newB o = true) : isNew o := by
  unfold newB at h
  split at h <;> first | trivial | cases h
/-- The allocs that need not wait for what turns the memory ahead of them. -/
def floats (B : List Nat) (ops : List Oper) (info : List (Bool × List Nat)) : List Nat :=
  (List.range ops.length).filter fun k => (match ops[k]? with
    | some o => newB o.op && o.guard.isNone && o.dst.isSome
    | none => false) && (List.range k).any fun m => (info.getD m (false, [])).1 && !hangs B k m

def drawB (n : Nat) (ps : List (Nat × Nat)) (ops : List Oper) (info : List (Bool × List Nat)) : Bool :=
  let B := cloGo ops []
  let N := ops.length
  let fs := floats B ops info
  decide (info.length = N) && (fs.all fun f => (List.range N).all fun k => !hangs B k f || (List.range f).all fun w => !(info.getD w (false, [])).1 || hangs B k w) && (List.range N).all fun k => match ops[k]? with
    | none => true
    | some o =>
      (o.after.all fun e => !Region.binds .any e || decide (e.on < k)) &&
      (match o.dst with | some d => decide (d < n) | none => true) &&
      (match o.guard with
        | some (j, _) => match (ops[j]?).bind (·.dst) with
          | some t => hangs B k j && o.dst != some t
          | none => true
        | none => true) &&
      ((List.range N).all fun m => match ops[m]? with
        | none => true
        | some om => (m == k) ||
          ((match om.dst with
            | some d => o.dst != some d &&
              (if (tmpsOf o).contains d || (info.getD k (false, [])).2.contains d then (decide (m < k) && hangs B k m) || (decide (k < m) && hangs B m k) else true)
            | none => true) &&
           (if (info.getD k (false, [])).1 && (info.getD m (false, [])).1 && decide (m < k) then hangs B k m || fs.contains k else true))) &&
      ((info.getD k (false, [])).1 || (List.range (N + 1)).all fun p =>
        !isPB info p || p == textP info k || ps.contains (k, p) ||
          (List.range N).any fun w => (info.getD w (false, [])).1 && ((hangs B k w && decide (p ≤ w)) || (hangs B w k && decide (w < p))))

def crossAll (ty : TyTab) (Γ : Gam) (ops : List Oper) (recs : List Rec) (M : List AObj) : List (Nat × Nat) → Prop
  | [] => True
  | (k, p) :: r => (match recs[k]?, ops[k]? with
      | some c, some o => match evOp ty Γ c.A c.vs (memAt M recs p) o with
        | some out => out.av = c.out.av ∧ out.M = none ∧ holds c.A c.vs out.obl
        | none => False
      | _, _ => True) ∧ crossAll ty Γ ops recs M r

theorem crossAll_get {ops : List Oper} {recs : List Rec} {M : List AObj} : ∀ {ps : List (Nat × Nat)}, crossAll ty Γ ops recs M ps → ∀ {k p : Nat} {c : Rec} {o : Oper}, (k, p) ∈ ps → recs[k]? = some c → ops[k]? = some o → Same ty Γ c (memAt M recs p) o
  | [], _, _, _, _, _, hm, _, _ => by cases hm
  | (k', p') :: r, h, k, p, c, o, hm, hc, ho => by
    unfold crossAll at h
    obtain ⟨h1, h2⟩ := h
    rcases List.mem_cons.1 hm with he | hm
    · have hk : k = k' := congrArg Prod.fst he
      have hp : p = p' := congrArg Prod.snd he
      subst hk; subst hp
      rw [hc, ho] at h1
      simp only at h1
      split at h1
      · rename_i out hev; exact ⟨out, hev, h1⟩
      · exact h1.elim
    · exact crossAll_get h2 hm hc ho

theorem info_get {recs : List Rec} {k : Nat} {c : Rec} (h : recs[k]? = some c) : (recs.map infoOf).getD k (false, []) = infoOf c := by
  simp [List.getD_eq_getElem?_getD, h]

theorem isPB_iff {recs : List Rec} {p : Nat} (h : isP recs p) : isPB (recs.map infoOf) p = true := by
  cases p with
  | zero => rfl
  | succ p =>
    obtain ⟨c, hc, hw⟩ := h
    simp only [isPB, info_get hc]; exact hw

theorem textP_fold {recs : List Rec} : ∀ (k : Nat), k ≤ recs.length →
    (textP (recs.map infoOf) k = 0 ∨ ∃ w cw, w < k ∧ textP (recs.map infoOf) k = w + 1 ∧ recs[w]? = some cw ∧ cw.w = true) ∧ (∀ (w : Nat) cw, w < k → recs[w]? = some cw → cw.w = true → w < textP (recs.map infoOf) k) ∧ textP (recs.map infoOf) k ≤ k
  | 0, _ => ⟨.inl rfl, fun w cw h => absurd h (by omega), by simp [textP]⟩
  | k + 1, hk => by
    obtain ⟨h1, h2, h3⟩ := textP_fold (recs := recs) k (by omega)
    have hk' : k < recs.length := hk
    have hc : recs[k]? = some (recs[k]'hk') := by simp [hk']
    have e : textP (recs.map infoOf) (k + 1) = if (recs[k]'hk').w then k + 1 else textP (recs.map infoOf) k := by
      unfold textP
      rw [List.range_succ, List.foldl_append]
      simp only [List.foldl_cons, List.foldl_nil, info_get hc]
      rfl
    rw [e]
    cases hw : (recs[k]'hk').w with
    | true =>
      simp only [if_true]
      exact ⟨.inr ⟨k, _, by omega, rfl, hc, hw⟩, fun w cw h _ _ => h, Nat.le_refl _⟩
    | false =>
      simp only [Bool.false_eq_true, if_false]
      refine ⟨h1.imp id fun ⟨w, cw, a, b⟩ => ⟨w, cw, by omega, b⟩, fun w cw h hcw hww => ?_, by omega⟩
      rcases Nat.lt_or_ge w k with h' | h'
      · exact h2 w cw h' hcw hww
      · have : w = k := by omega
        subst this
        rw [hc] at hcw; cases hcw
        rw [hw] at hww; cases hww

theorem drawB_spec {ops : Array Oper} {recs : List Rec} {n : Nat} {ps : List (Nat × Nat)} {M M1 : List AObj} {A0 A1 : Env} (hrun : runR ty Γ ops ops.toList A0 M = some (recs, A1, M1))
    (h : drawB n ps ops.toList (recs.map infoOf) = true) (hc : crossAll ty Γ ops.toList recs M ps) : ∃ fs, DrawOk ops recs fs n ∧ Cross ty Γ ops recs M := by
  have hlen : recs.length = ops.size := by have := run_len hrun; simpa using this
  unfold drawB at h
  simp only [Bool.and_eq_true, decide_eq_true_eq, List.all_eq_true, List.mem_range, Array.length_toList] at h
  obtain ⟨⟨_, hus⟩, h⟩ := h
  have key : ∀ (k : Nat) o, ops[k]? = some o → _ := fun k o ho => by
    have := h k (lt_of_get ho)
    rw [show ops.toList[k]? = some o by simpa using ho] at this
    exact this
  simp only [Bool.and_eq_true] at key
  have hB : cloGo ops.toList [] = cloOf ops := rfl
  rw [hB] at key hus
  have hfl : ∀ f ∈ floats (cloOf ops) ops.toList (recs.map infoOf), ∃ o d, ops[f]? = some o ∧ isNew o.op ∧ o.guard = none ∧ o.dst = some d := fun f hf => by
    obtain ⟨_, h2⟩ := List.mem_filter.1 hf
    simp only [Bool.and_eq_true] at h2
    obtain ⟨h2, _⟩ := h2
    split at h2
    · rename_i o ho
      simp only [Bool.and_eq_true] at h2
      obtain ⟨⟨h3, h4⟩, h5⟩ := h2
      obtain ⟨d, hd⟩ := Option.isSome_iff_exists.1 h5
      exact ⟨o, d, by simpa using ho, newB_spec h3, by simpa using h4, hd⟩
    · cases h2
  refine ⟨floats (cloOf ops) ops.toList (recs.map infoOf), ⟨fun k o e ho he hb => ?_, fun i j oi oj d hi hj hdi hdj => ?_, fun i o d hi hd => ?_, fun i m oi om c d hi hm hci hdm hs hne => ?_, fun k o j b t hk hg ht => ?_, fun i j ci cj hci hcj hwi hwj hij hjf => ?_, hfl, fun k f w cw hf hk hh hcw hww hlt => ?_⟩, ?_⟩
  · obtain ⟨⟨⟨⟨k1, _⟩, _⟩, _⟩, _⟩ := key k o ho
    have := Array.all_eq_true'.1 k1 e he
    simpa [hb] using this
  · by_cases hij : i = j
    · exact hij
    · exfalso
      obtain ⟨⟨⟨⟨_, _⟩, _⟩, k4⟩, _⟩ := key i oi hi
      have := List.all_eq_true.1 k4 j (by simpa using lt_of_get hj)
      rw [show ops.toList[j]? = some oj by simpa using hj] at this
      simp only [hdj, hdi, Bool.or_eq_true, beq_iff_eq, Bool.and_eq_true, bne_iff_ne] at this
      rcases this with h | ⟨⟨h, _⟩, _⟩
      · exact hij h.symm
      · exact h rfl
  · obtain ⟨⟨⟨⟨_, k2⟩, _⟩, _⟩, _⟩ := key i o hi
    rw [hd] at k2
    simpa using k2
  · obtain ⟨⟨⟨⟨_, _⟩, _⟩, k4⟩, _⟩ := key i oi hi
    have := List.all_eq_true.1 k4 m (by simpa using lt_of_get hm)
    rw [show ops.toList[m]? = some om by simpa using hm] at this
    simp only [hdm, Bool.or_eq_true, beq_iff_eq, Bool.and_eq_true] at this
    rcases this with h | ⟨⟨_, h⟩, _⟩
    · exact absurd h hne
    · rw [info_get hci] at h
      have hin : ((tmpsOf oi).contains d || (infoOf c).2.contains d) = true := by
        simp only [Bool.or_eq_true, List.contains_iff_mem]
        rcases hs with hs | hs
        · left; exact List.mem_filterMap.2 ⟨.tmp d, by simpa using hs, rfl⟩
        · right; exact hs
      rw [if_pos (by simpa using hin)] at h
      simpa using h
  · obtain ⟨⟨⟨⟨_, _⟩, k3⟩, _⟩, _⟩ := key k o hk
    rw [hg] at k3
    simp only at k3
    have : (ops.toList[j]?).bind (·.dst) = some t := by simpa using ht
    rw [this] at k3
    simpa using k3
  · have hoj : ops[j]? = some (ops[j]'(by rw [← hlen]; exact llt_of_get hcj)) := by simp [← hlen, llt_of_get hcj]
    have hoi : ops[i]? = some (ops[i]'(by rw [← hlen]; exact llt_of_get hci)) := by simp [← hlen, llt_of_get hci]
    obtain ⟨⟨⟨⟨_, _⟩, _⟩, k4⟩, _⟩ := key j _ hoj
    have := List.all_eq_true.1 k4 i (by simpa using lt_of_get hoi)
    rw [show ops.toList[i]? = some (ops[i]'(by rw [← hlen]; exact llt_of_get hci)) by simp] at this
    simp only [Bool.or_eq_true, beq_iff_eq, Bool.and_eq_true] at this
    rcases this with h | ⟨_, h⟩
    · omega
    · rw [info_get hci, info_get hcj] at h
      have e1 : (infoOf ci).1 = true := hwi
      have e2 : (infoOf cj).1 = true := hwj
      have hall : ((infoOf cj).1 && (infoOf ci).1 && decide (i < j)) = true := by simp [e1, e2, hij]
      first
        | (rw [if_pos hall] at h
           simp only [Bool.or_eq_true, List.contains_iff_mem] at h
           exact h.resolve_right hjf)
        | (rw [if_pos (by simp [e1, e2, hij])] at h
           simp only [Bool.or_eq_true, List.contains_iff_mem] at h
           exact h.resolve_right hjf)
  · have h1 := hus f hf k (by simpa using hk)
    rw [hh] at h1
    simp only [Bool.not_true, Bool.false_or, List.all_eq_true, List.mem_range] at h1
    have h2 := h1 w hlt
    rw [info_get hcw] at h2
    have e1 : (infoOf cw).1 = true := hww
    simpa [e1] using h2
  · intro k p c o hck hok hw hp hlo hhi hple hne
    obtain ⟨_, k5⟩ := key k o hok
    rw [info_get hck] at k5
    have e1 : (infoOf c).1 = false := hw
    simp only [e1, Bool.false_or] at k5
    have := List.all_eq_true.1 k5 p (by simp only [List.mem_range]; omega)
    simp only [Bool.or_eq_true, isPB_iff hp, Bool.not_true, Bool.false_eq_true, false_or, beq_iff_eq, List.contains_iff_mem] at this
    rcases this with (h | h) | h
    · -- it is the memory of the text's order
      exfalso
      apply hne
      obtain ⟨q, q1, q2, q3, q4⟩ := (run_mem hrun).1 hck
      have hkl : k ≤ recs.length := by have := llt_of_get hck; omega
      obtain ⟨t1, t2, t3⟩ := textP_fold k hkl
      have : q = p := by
        rw [h]
        apply Nat.le_antisymm
        · cases q with
          | zero => omega
          | succ q =>
            obtain ⟨cq, hcq, hcw⟩ := q2
            have := t2 q cq (by omega) hcq hcw; omega
        · rcases t1 with h0 | ⟨w, cw, w1, w2, w3, w4⟩
          · omega
          · have := q4 w cw w1 w3 w4; omega
      rw [q3, this]
    · exact crossAll_get hc h hck (by simpa using hok)
    · exfalso
      obtain ⟨w, hw1, hw2⟩ := List.any_eq_true.1 h
      simp only [Bool.and_eq_true, Bool.or_eq_true, decide_eq_true_eq] at hw2
      obtain ⟨hw2, hw3⟩ := hw2
      have hwl : w < recs.length := by simp only [List.mem_range] at hw1; omega
      have hcw : recs[w]? = some recs[w] := by simp [hwl]
      rw [info_get hcw] at hw2
      rcases hw3 with ⟨h3, h4⟩ | ⟨h3, h4⟩
      · have := hlo w _ hcw hw2 h3; omega
      · have := hhi w _ hcw hw2 h3; omega

theorem AWp.regionD' (hm : P.follows .mixedOrders = true) (hty : TyOk P ty) (hΓ : GamOk P Γ) {n B : Nat} {id : Nat} {ops : Array Oper} {A A1 : Env} {M M1 : List AObj} {recs : List Rec} (keep dead : List Nat) (ps : List (Nat × Nat))
    (hrun : runR ty Γ ops ops.toList A M = some (recs, A1, M1)) (hd : drawB n ps ops.toList (recs.map infoOf) = true) (hc : crossAll ty Γ ops.toList recs M ps) (ht : noTags A = true) (ho : oblsR recs)
    {Q : Exit → St → Prop} (hq : Q .normal ⟨keepE A1 keep (without (dstL ops.toList ++ dead) A), M1⟩) : AWp P n B (.region id ops true) Q ⟨A, M⟩ := by
  intro g0 g a at_
  obtain ⟨fs, hD, hX⟩ := drawB_spec hrun hd hc
  have hlen : recs.length = ops.size := by have := run_len hrun; simpa using this
  refine wp_region_any hm ?_
  -- the draw
  have hheap : ({ g.w with drawn := g.w.drawn + 1 } : World).heap = g.w.heap := rfl
  let g1 : G := { g with w := { g.w with drawn := g.w.drawn + 1 } }
  have k1 : Keep g g1 := keep_heap hheap
  have s1 : Sim g1 := sim_heap hheap at_.sim
  have hmid : Mid ops recs fs M n a g1 A (Array.replicate ops.size false) a g1.w := by
    have hget : ∀ k, (Array.replicate ops.size false).getD k true = true → ops.size ≤ k := fun k h => by
      rcases Nat.lt_or_ge k ops.size with h' | h'
      · simp [Array.getD, h'] at h
      · exact h'
    have hfsz : ∀ f ∈ fs, f < ops.size := fun f hf => by
      obtain ⟨of, _, hof, _⟩ := hD.fl f hf
      exact lt_of_get hof
    exact ⟨0, [], g1, rfl, ⟨by simp, fun k o hok hl => absurd (lt_of_get hok) (by have := hget k hl; omega), Nat.zero_le _, trivial, at_.mem, fun w cw hcw _ _ => ⟨fun hl => absurd (llt_of_get hcw) (by have := hget w hl; omega), fun h => absurd h (by omega)⟩,
      fun w _ h => absurd h (by omega), (asideX_nil _).symm, fun q hq => (by cases hq), fun w hw hl => absurd (hfsz w hw) (by have := hget w hl; omega), fun q q' hq => (by cases hq), s1, Keep.refl _, at_.size, rfl,
      fun k o c d hok _ _ hl => absurd (lt_of_get hok) (by have := hget k hl; omega), fun _ _ => rfl⟩⟩
  refine run_drawn hty hΓ hrun ho hD (fun x hx => s1.inb x (.inl hx)) hX (EnvRel.keep k1 at_.env) ht (fun a' g' h1 h2 h3 hx h4 h5 h6 => ?_) ops.size _ a g1.w ?_ hmid
  · refine ⟨_, g', hq, rfl, at_.base, hx.trans at_.ax, at_.keep.trans (k1.trans h5), h3, h4, keepE_rel h6 ?_ keep, h1, by rw [h2]; exact at_.defers⟩
    rw [without_app]
    refine without_rel fun t tag av he => ?_
    rw [without_ent] at he
    split at he
    · cases he
    · rename_i hcc
      refine h6 t tag av ?_
      rw [run_ent hrun t (by simpa using hcc)]; exact he
  · have := List.length_filter_le (fun k => !(Array.replicate ops.size false).getD k true) (List.range ops.size)
    rw [List.length_range] at this; exact this

theorem AWp.regionD (hm : P.follows .mixedOrders = true) (hty : TyOk P ty) (hΓ : GamOk P Γ) {n B : Nat} {Q : Exit → St → Prop} {id : Nat} {ops : Array Oper} {A A1 : Env} {M M1 : List AObj} {recs : List Rec} (keep : List Nat) (ps : List (Nat × Nat))
    (hrun : runR ty Γ ops ops.toList A M = some (recs, A1, M1)) (hd : drawB n ps ops.toList (recs.map infoOf) = true) (hc : crossAll ty Γ ops.toList recs M ps) (ht : noTags A = true) (ho : oblsR recs)
    (hq : Q .normal ⟨keepE A1 keep (without (dstL ops.toList) A), M1⟩) : AWp P n B (.region id ops true) Q ⟨A, M⟩ := by
  refine AWp.regionD' hm hty hΓ keep [] ps hrun hd hc ht ho ?_
  rw [List.append_nil]; exact hq
end
end Go.Ab

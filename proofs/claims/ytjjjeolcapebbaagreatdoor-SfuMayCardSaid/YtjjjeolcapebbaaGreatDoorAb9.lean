/- A region in the text's order whose guards have been decided: an operation under a guard that holds is like any other, one under a guard that does not is none. No condition: over any program. -/
import Derived.Test.YtjjjeolcapebbaaGreatDoorM10
namespace Go.Ab

def tmpIs (A : Env) (t : Nat) (b : Bool) : Prop :=
  match ent A t with
  | some (none, .lit (.bool p)) => p = b
  | _ => False

/-- A place that was passed over. -/
def isU (A : Env) (t : Nat) : Bool :=
  match ent A t with
  | some (none, .lit v) => (yv v).isNone
  | _ => false

/-- What an operation comes to: what it asks, its tag, its value, the memory; D: the places that are known to be true, or false. -/
def oneG (ty : TyTab) (Γ : Gam) (ops : Array Oper) (D : List (Nat × Bool)) (A : Env) (M : List AObj) (o : Oper) : Option (Prop × Tag × AV × Option (List AObj)) :=
  match tagOf ops o with
  | none => none
  | some none => match o.op with
    | .pick (.tmp t) a b =>
      if D.contains (t, true) then (evX A [] a).map fun v => (tmpIs A t true, none, v, none)
      else if D.contains (t, false) then (evX A [] b).map fun v => (tmpIs A t false, none, v, none)
      else (evOp ty Γ A [] M o).map fun out => (out.obl, none, out.av, out.M)
    | _ => (evOp ty Γ A [] M o).map fun out => (out.obl, none, out.av, out.M)
  | some (some (t, b)) =>
    if isU A t then some (True, none, .lit undef, none)
    else if D.contains (t, b) then match o.op with
      | .pick (.tmp u) x y =>
        if D.contains (u, true) then (evX A [] x).map fun v => (tmpIs A t b ∧ tmpIs A u true, none, v, none)
        else if D.contains (u, false) then (evX A [] y).map fun v => (tmpIs A t b ∧ tmpIs A u false, none, v, none)
        else (evOp ty Γ A [] M o).map fun out => (tmpIs A t b ∧ out.obl, none, out.av, out.M)
      | _ => (evOp ty Γ A [] M o).map fun out => (tmpIs A t b ∧ out.obl, none, out.av, out.M)
    else if D.contains (t, !b) then some (tmpIs A t (!b), none, .lit undef, none)
    else (evOp ty Γ A (visOf A 5 (some (t, b))) M o).bind fun out => match out.M with
      | none => some (holds A (visOf A 5 (some (t, b))) out.obl, some (t, b), out.av, none)
      | some _ => none

def runG (ty : TyTab) (Γ : Gam) (ops : Array Oper) (D : List (Nat × Bool)) : List Oper → Env → List AObj → Option (List Prop × Env × List AObj)
  | [], A, M => some ([], A, M)
  | o :: r, A, M => match oneG ty Γ ops D A M o with
    | some (p, tag, av, M') => match runG ty Γ ops D r (putE A o.dst tag av) (M'.getD M) with
      | some (ps, A1, M1) => some (p :: ps, A1, M1)
      | none => none
    | none => none

def allP : List Prop → Prop
  | [] => True
  | p :: r => p ∧ allP r

section
variable {P : Program} {ty : TyTab} {Γ : Gam}

theorem tmpIs_spec {g : G} {A : Env} {tmps : Array Value} (hA : EnvRel g A tmps) {t : Nat} {b : Bool} (h : tmpIs A t b) : tmps.getD t undef = .bool b := by
  unfold tmpIs at h
  split at h
  · rename_i p he
    have := (hA t none _ he : R g _ _).lit_inv
    rw [this, h]
  · exact h.elim

theorem yv_undef : yv undef = none := rfl
theorem isU_spec {g : G} {A : Env} {tmps : Array Value} (hA : EnvRel g A tmps) {t : Nat} (h : isU A t = true) : yv (tmps.getD t undef) = none := by
  unfold isU at h
  split at h
  · rename_i v he
    have := (hA t none _ he : R g _ _).lit_inv
    rw [this]; simpa using h
  · cases h

theorem run_pick {o : Oper} {t : Nat} {a b : Operand} (ho : o.op = .pick (.tmp t) a b) {act : Act} {w : World} {p : Bool} (hp : act.tmps.getD t undef = .bool p) :
    (execOp act.eval o).run P w = .ok (.value (if p then act.eval a else act.eval b)) w := by
  cases p <;> simp [execOp, ho, Act.eval, hp, asBool]

/-- One operation. -/
theorem oneG_spec (hty : TyOk P ty) (hΓ : GamOk P Γ) {ops : Array Oper} {D : List (Nat × Bool)} {o : Oper} {A : Env} {g : G} {a : Act} {p : Prop} {tag : Tag} {av : AV} {M' : Option (List AObj)} {Q : Exit → Act → World → Prop} {next : Act → World → Prop}
    (h : oneG ty Γ ops D A g.M o = some (p, tag, av, M')) (hp : p) (sm : Sim g) (hA : EnvRel g A a.tmps)
    (hn : ∀ v (g' : G), Sim g' → Keep g g' → g'.X = g.X → g'.M = M'.getD g.M → TagR a.tmps v (R g' av v) tag → next (a.put o.dst v) g'.w) :
    if Region.wanted o (yielded ops a.tmps) then o.wp P a g.w next Q ∨ (o.asks P a g.w ∧ LetsOut Q) else next (a.put o.dst undef) g.w := by
  have go : ∀ {out : Out} {vs : List (Nat × Bool)}, evOp ty Γ A vs g.M o = some out → out.obl → Tr a.tmps vs → (∀ v (g' : G), Sim g' → Keep g g' → g'.X = g.X → g'.M = out.M.getD g.M → R g' out.av v → next (a.put o.dst v) g'.w) → o.wp P a g.w next Q := by
    intro out vs he ho hv hk
    exact (evOp_does hty hΓ he ho sm hA hv).wp fun v w' ⟨β, ρ, h1, h2, h3⟩ => hk v (g.out out.M β ρ w') h1 h3 rfl rfl h2
  have pick : ∀ {t : Nat} {x y : Operand} {b : Bool} {v : AV}, o.op = .pick (.tmp t) x y → tmpIs A t b → evX A [] (if b then x else y) = some v → (∀ u (g' : G), Sim g' → Keep g g' → g'.X = g.X → g'.M = g.M → R g' v u → next (a.put o.dst u) g'.w) → o.wp P a g.w next Q := by
    intro t x y b v ho ht hv hk
    have hr := run_pick (P := P) (w := g.w) ho (tmpIs_spec hA ht)
    have hx := hA.ev (a := a) (vs := []) (fun p hp => by cases hp) hv
    unfold Oper.wp
    rw [hr]
    cases b <;> exact hk _ g sm (Keep.refl g) rfl rfl hx
  have wt : ∀ {t : Nat} {b : Bool}, tagOf ops o = some (some (t, b)) → ∀ {c : Bool}, tmpIs A t c → Region.wanted o (yielded ops a.tmps) = (c == b) := by
    intro t b ht c hc
    rw [wanted_iff ht]
    simp only [tagB]
    rw [tmpIs_spec hA hc]
    cases b <;> cases c <;> rfl
  unfold oneG at h
  split at h
  · cases h
  · rename_i ht
    have hw : Region.wanted o (yielded ops a.tmps) = true := by rw [wanted_iff ht]; rfl
    rw [if_pos hw]
    left
    have main : (evOp ty Γ A [] g.M o).map (fun out => (out.obl, (none : Tag), out.av, out.M)) = some (p, tag, av, M') → o.wp P a g.w next Q := by
      intro q
      cases he : evOp ty Γ A [] g.M o with
      | none => rw [he] at q; cases q
      | some out =>
        rw [he] at q
        cases q
        exact go he hp (fun p hp => by cases hp) fun v g' h1 h2 h3 h4 h5 => hn v g' h1 h2 h3 h4 h5
    split at h
    · rename_i t x y hop
      split at h
      · cases hv : evX A [] x with
        | none => rw [hv] at h; cases h
        | some v => rw [hv] at h; cases h; exact pick (b := true) hop hp hv fun u g' h1 h2 h3 h4 h5 => hn u g' h1 h2 h3 h4 h5
      · split at h
        · cases hv : evX A [] y with
          | none => rw [hv] at h; cases h
          | some v => rw [hv] at h; cases h; exact pick (b := false) hop hp hv fun u g' h1 h2 h3 h4 h5 => hn u g' h1 h2 h3 h4 h5
        · exact main h
    · exact main h
  · rename_i t b ht
    split at h
    · rename_i hu
      cases h
      rw [wanted_iff ht, if_neg (by show ¬ ((yv (a.tmps.getD t undef) == some b) = true); rw [isU_spec hA hu]; simp)]
      exact hn undef g sm (Keep.refl g) rfl rfl (.lit undef)
    split at h
    · have main : (evOp ty Γ A [] g.M o).map (fun out => (tmpIs A t b ∧ out.obl, (none : Tag), out.av, out.M)) = some (p, tag, av, M') → if Region.wanted o (yielded ops a.tmps) then o.wp P a g.w next Q ∨ (o.asks P a g.w ∧ LetsOut Q) else next (a.put o.dst undef) g.w := by
        intro q
        cases he : evOp ty Γ A [] g.M o with
        | none => rw [he] at q; cases q
        | some out =>
          rw [he] at q
          cases q
          rw [wt ht hp.1, if_pos (by cases b <;> rfl)]
          exact .inl (go he hp.2 (fun p hp => by cases hp) fun v g' h1 h2 h3 h4 h5 => hn v g' h1 h2 h3 h4 h5)
      split at h
      · rename_i u x y hop
        split at h
        · cases hv : evX A [] x with
          | none => rw [hv] at h; cases h
          | some v =>
            rw [hv] at h; cases h
            rw [wt ht hp.1, if_pos (by cases b <;> rfl)]
            exact .inl (pick (b := true) hop hp.2 hv fun u g' h1 h2 h3 h4 h5 => hn u g' h1 h2 h3 h4 h5)
        · split at h
          · cases hv : evX A [] y with
            | none => rw [hv] at h; cases h
            | some v =>
              rw [hv] at h; cases h
              rw [wt ht hp.1, if_pos (by cases b <;> rfl)]
              exact .inl (pick (b := false) hop hp.2 hv fun u g' h1 h2 h3 h4 h5 => hn u g' h1 h2 h3 h4 h5)
          · exact main h
      · exact main h
    · split at h
      · cases h
        rw [wt ht hp, if_neg (by cases b <;> decide)]
        exact hn undef g sm (Keep.refl g) rfl rfl (.lit undef)
      · cases he : evOp ty Γ A (visOf A 5 (some (t, b))) g.M o with
        | none => rw [he] at h; cases h
        | some out =>
          rw [he] at h
          simp only [Option.bind_some] at h
          split at h
          · rename_i hM
            cases h
            refine step_spec hty hΓ ht rfl he (fun _ _ => .inl hM) hp sm hA fun v g' h1 h2 h3 h4 h5 => ?_
            rw [hM] at h4
            exact hn v g' h1 h2 h3 h4 h5
          · cases h
theorem oneG_tag {ops : Array Oper} {D : List (Nat × Bool)} {o : Oper} {A : Env} {M : List AObj} {p : Prop} {tag : Tag} {av : AV} {M' : Option (List AObj)} (h : oneG ty Γ ops D A M o = some (p, tag, av, M')) :
    ∃ tg, tagOf ops o = some tg ∧ (tag = none ∨ tag = tg) := by
  have mp : ∀ {α : Type} {x : Option α} {f : α → Prop × Tag × AV × Option (List AObj)}, (∀ y, (f y).2.1 = none) → x.map f = some (p, tag, av, M') → tag = none := by
    intro α x f hf hx
    cases x with
    | none => cases hx
    | some y =>
      have := hf y
      simp only [Option.map_some, Option.some.injEq] at hx
      rw [hx] at this; exact this
  unfold oneG at h
  split at h
  · cases h
  · rename_i ht
    refine ⟨none, ht, .inl ?_⟩
    split at h
    · split at h
      · exact mp (fun _ => rfl) h
      · split at h <;> exact mp (fun _ => rfl) h
    · exact mp (fun _ => rfl) h
  · rename_i t b ht
    refine ⟨some (t, b), ht, ?_⟩
    split at h
    · cases h; exact .inl rfl
    split at h
    · left
      split at h
      · split at h
        · exact mp (fun _ => rfl) h
        · split at h <;> exact mp (fun _ => rfl) h
      · exact mp (fun _ => rfl) h
    · split at h
      · cases h; exact .inl rfl
      · right
        cases he : evOp ty Γ A (visOf A 5 (some (t, b))) M o with
        | none => rw [he] at h; cases h
        | some out =>
          rw [he] at h
          simp only [Option.bind_some] at h
          split at h
          · cases h; rfl
          · cases h

theorem run_textG (hty : TyOk P ty) (hΓ : GamOk P Γ) {ops : Array Oper} {D : List (Nat × Bool)} {Q : Exit → Act → World → Prop} (n : Nat) : ∀ (l : List Oper) {A A' : Env} {M M' : List AObj} {ps : List Prop} {gs : List Nat} {g : G} {a : Act},
    runG ty Γ ops D l A M = some (ps, A', M') → allP ps → dstsOk ops n l gs = true → tagsIn A gs → a.tmps.size = n → g.M = M → Sim g → EnvRel g A a.tmps →
    (∀ a' (g' : G), a'.tmps.size = n → a'.defers = a.defers → g'.M = M' → g'.X = g.X → Sim g' → Keep g g' → EnvRel g' A' a'.tmps → Q .normal a' g'.w) → wpList P ops Q l a g.w
  | [], A, A', M, M', ps, gs, g, a, h, _, _, _, hn, hg, sm, hA, hQ => by
    cases h
    exact hQ a g hn rfl hg rfl sm (Keep.refl g) hA
  | o :: r, A, A', M, M', ps, gs, g, a, h, hob, hds, htg, hn, hg, sm, hA, hQ => by
    unfold runG at h
    split at h
    · rename_i p tag av M1 hc
      split at h
      · rename_i ps' A2 M2 hrec
        cases h
        obtain ⟨hob1, hob2⟩ := hob
        subst hg
        obtain ⟨tg, h1, htag⟩ := oneG_tag hc
        unfold dstsOk at hds
        simp only [Bool.and_eq_true] at hds
        obtain ⟨hd1, hd2⟩ := hds
        rw [h1] at hd2
        have hfree : ∀ d, o.dst = some d → d < a.tmps.size ∧ free A d = true ∧ ∀ τ, tag = some τ → τ.1 ≠ d := fun d hd => by
          rw [hd] at hd1 hd2
          simp only [Bool.and_eq_true, decide_eq_true_eq, Bool.not_eq_true'] at hd1
          refine ⟨by rw [hn]; exact hd1.1, free_of htg hd1.2, fun τ hτ => ?_⟩
          rcases htag with h | h
          · rw [h] at hτ; cases hτ
          · rw [← h, hτ] at hd2
            simp only [Bool.and_eq_true, bne_iff_ne] at hd2
            exact hd2.1
        have key : ∀ v (g' : G), Sim g' → Keep g g' → g'.X = g.X → g'.M = M1.getD g.M → TagR a.tmps v (R g' av v) tag →
            wpList P ops Q r (a.put o.dst v) g'.w := fun v g' s' k hx hM hr => by
          have hds' : ∃ gs', dstsOk ops n r gs' = true ∧ tagsIn (putE A o.dst tag av) gs' := by
            cases hct : tg with
            | none =>
              rw [hct] at hd2
              refine ⟨gs, hd2, fun e he τ hτ => ?_⟩
              have htn : tag = none := by rcases htag with h | h; exact h; rw [h, hct]
              cases hod : o.dst with
              | none => rw [hod] at he; exact htg e he τ hτ
              | some d =>
                rw [hod] at he
                rcases List.mem_cons.1 he with rfl | he
                · rw [htn] at hτ; cases hτ
                · exact htg e he τ hτ
            | some σ =>
              rw [hct] at hd2
              simp only [Bool.and_eq_true] at hd2
              refine ⟨σ.1 :: gs, hd2.2, fun e he τ hτ => ?_⟩
              cases hod : o.dst with
              | none => rw [hod] at he; exact List.mem_cons_of_mem _ (htg e he τ hτ)
              | some d =>
                rw [hod] at he
                rcases List.mem_cons.1 he with rfl | he
                · rcases htag with h | h
                  · rw [h] at hτ; cases hτ
                  · rw [h, hct] at hτ; cases hτ; simp
                · exact List.mem_cons_of_mem _ (htg e he τ hτ)
          obtain ⟨gs', hgs1, hgs2⟩ := hds'
          refine run_textG hty hΓ n r hrec hob2 hgs1 hgs2 (by rw [size_put]; exact hn) hM s' ((hA.keep k).put hfree hr) fun a' g'' q1 q2 q3 qx q4 q5 q6 => ?_
          exact hQ a' g'' q1 (by rw [q2, defers_put]) q3 (qx.trans hx) q4 (k.trans q5) q6
        have := oneG_spec (Q := Q) hty hΓ hc hob1 sm hA key
        unfold wpList
        exact this
      · cases h
    · cases h

theorem runG_ent {ops : Array Oper} {D : List (Nat × Bool)} : ∀ {l : List Oper} {A A' : Env} {M M' : List AObj} {ps : List Prop}, runG ty Γ ops D l A M = some (ps, A', M') → ∀ t, t ∉ dstL l → ent A' t = ent A t
  | [], A, A', M, M', ps, h, t, _ => by cases h; rfl
  | o :: r, A, A', M, M', ps, h, t, ht => by
    unfold runG at h
    split at h
    · rename_i p tag av M1 hc
      split at h
      · rename_i ps' A2 M2 hrec
        cases h
        unfold dstL at ht
        cases hd : o.dst with
        | none =>
          rw [hd] at ht
          have := runG_ent hrec t ht
          rw [this, hd]; rfl
        | some d =>
          rw [hd] at ht
          simp only [List.mem_cons, not_or] at ht
          have := runG_ent hrec t ht.2
          rw [this, hd]
          simp only [putE, ent, show ¬ d = t from fun e => ht.1 e.symm, if_false]
      · cases h
    · cases h

def regG (keep dead : List Nat) (ops : List Oper) (σ σ' : St) : Option (List Prop × Env × List AObj) → Prop
  | some (ps, A1, M1) => allP ps ∧ keepE A1 keep (without (dstL ops ++ dead) σ.A) = σ'.A ∧ M1 = σ'.M
  | none => False

/-- A region whose guards have been decided. -/
theorem AWp.regG {n B : Nat} {σ : St} (hty : TyOk P ty) (hΓ : GamOk P Γ) {id : Nat} {ops : Array Oper} (D : List (Nat × Bool)) {keep dead : List Nat} {σ' : St} (hd : dstsOk ops n ops.toList [] = true) (hn : noTags σ.A = true)
    (h : Go.Ab.regG keep dead ops.toList σ σ' (runG ty Γ ops D ops.toList σ.A σ.M)) : AWp P n B (.region id ops false) (exS σ') σ := by
  obtain ⟨A, M⟩ := σ
  obtain ⟨A', M'⟩ := σ'
  unfold Go.Ab.regG at h
  split at h
  · rename_i ps A1 M1 hrun
    obtain ⟨h1, h2, h3⟩ := h
    simp only at h2 h3
    subst h3
    subst h2
    intro g0 g a at_
    refine wp_region_list (run_textG hty hΓ n ops.toList hrun h1 hd (fun e he τ hτ => ?_) at_.size at_.mem at_.sim at_.env fun a' g' q1 q2 q3 hx q4 q5 q6 => ?_)
    · have := List.all_eq_true.1 hn e he
      simp [hτ] at this
    · refine ⟨_, g', rfl, rfl, at_.base, hx.trans at_.ax, at_.keep.trans q5, q3, q4, keepE_rel q6 ?_ keep, q1, by rw [q2]; exact at_.defers⟩
      rw [without_app]
      refine without_rel fun t tag av he => ?_
      rw [without_ent] at he
      split at he
      · cases he
      · rename_i hc
        refine q6 t tag av ?_
        rw [runG_ent hrun t (by simpa using hc)]; exact he
  · exact h.elim
end
@[simp] theorem yv_bool (b : Bool) : yv (.bool b) = some b := rfl
attribute [simp] tmpIs oneG runG allP regG isU yv_undef

/-! ### What a contract reads of the memory -/
section
variable {α : Type} {M : List AObj} {i j : Nat} {c : List AV} {r : α}
def rdB (M : List AObj) (i : Nat) : Option (List AV) := match M[i]? with
  | some (.blk c) => some c
  | _ => none
def rdE (M : List AObj) (i : Nat) : Option (List (AV × AV)) := match M[i]? with
  | some (.mapo c) => some c
  | _ => none
def rdO (M : List AObj) (i : Nat) : Option Own := match M[i]? with
  | some (.own c none) => some c
  | _ => none
def rdQ (M : List AObj) (i : Nat) : Option Opq := match M[i]? with
  | some (.opq c) => some c
  | _ => none
def rdP (c : List AV) (j : Nat) : Option Nat := match nthE c j with
  | some (.ptr i 0) => some i
  | _ => none
def rdM (c : List AV) (j : Nat) : Option Nat := match nthE c j with
  | some (.mp i) => some i
  | _ => none
theorem bB {f : List AV → Option α} (h : (rdB M i).bind f = some r) : ∃ c, M[i]? = some (.blk c) ∧ f c = some r := by
  unfold rdB at h
  split at h
  · rename_i c q; exact ⟨c, q, h⟩
  · cases h
theorem so1 {o : Option α} (h : o.isSome = true) : ∃ r, o = some r := Option.isSome_iff_exists.1 h
theorem gd1 (a d : α) : (some a).getD d = a := rfl
theorem ix {p : Nat → Nat → Prop} {a : Nat} {l : List Nat} (h0 : p 0 a) (h : ∀ k i, l[k]? = some i → p (k + 1) i) : ∀ k i, (a :: l)[k]? = some i → p k i := fun k i hk => by
  cases k with
  | zero => simp at hk; subst hk; exact h0
  | succ k => exact h k i (by simpa using hk)
theorem ixn {p : Nat → Nat → Prop} : ∀ k i, ([] : List Nat)[k]? = some i → p k i := fun k i hk => by simp at hk
end
attribute [simp] rdB rdE rdO rdQ rdP rdM
end Go.Ab

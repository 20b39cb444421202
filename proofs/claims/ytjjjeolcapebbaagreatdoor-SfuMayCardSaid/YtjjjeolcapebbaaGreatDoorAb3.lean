/- Regions in the text's order, code and calls over abstract values. No condition: over any program. -/
import Derived.Test.YtjjjeolcapebbaaGreatDoorAb2
import Derived.Orders
import Derived.Deep.LoopGhost
namespace Go.Ab
/-! ## A run of the operations in the text's order -/
structure Rec where
  A : Env
  M : List AObj
  vs : List (Nat × Bool)
  tag : Tag
  out : Out

def tagOf (ops : Array Oper) (o : Oper) : Option Tag :=
  match o.guard with
  | none => some none
  | some (j, b) => match (ops[j]?).bind (·.dst) with
    | some t => some (some (t, b))
    | none => none

def putE (A : Env) (dst : Option Tmp) (tag : Tag) (av : AV) : Env :=
  match dst with
  | some d => ⟨d, tag, av⟩ :: A
  | none => A

/-- Is the guard known to hold? -/
def gdKnown (A : Env) (τ : Nat × Bool) : Bool := match ent A τ.1 with
  | some (none, .lit (.bool p)) => p == τ.2
  | _ => false
theorem gdKnown_ent {A : Env} {τ : Nat × Bool} (h : gdKnown A τ = true) : ent A τ.1 = some (none, .lit (.bool τ.2)) := by
  unfold gdKnown at h
  split at h
  · rename_i p he; rw [he, eq_of_beq h]
  · cases h
def recOf (ty : TyTab) (Γ : Gam) (ops : Array Oper) (A : Env) (M : List AObj) (o : Oper) : Option Rec :=
  match tagOf ops o with
  | none => none
  | some none => match evOp ty Γ A [] M o with
    | some out => some ⟨A, M, [], none, out⟩
    | none => none
  | some (some τ) => match evOp ty Γ A (visOf A 5 (some τ)) M o with
    | some out => match out.M with
      | none => some ⟨A, M, visOf A 5 (some τ), some τ, out⟩
      | some _ => if gdKnown A τ then some ⟨A, M, visOf A 5 (some τ), some τ, out⟩ else none
    | none => none

def runR (ty : TyTab) (Γ : Gam) (ops : Array Oper) : List Oper → Env → List AObj → Option (List Rec × Env × List AObj)
  | [], A, M => some ([], A, M)
  | o :: r, A, M => match recOf ty Γ ops A M o with
    | some c => match runR ty Γ ops r (putE A o.dst c.tag c.out.av) (c.out.M.getD M) with
      | some (l, A', M') => some (c :: l, A', M')
      | none => none
    | none => none

/-- Is the guard true? -/
def tagB (tmps : Array Value) : Tag → Bool
  | none => true
  | some τ => yv (tmps.getD τ.1 undef) == some τ.2
/-- What is left of a value under a guard. -/
def TagR (tmps : Array Value) (v : Value) (p : Prop) : Tag → Prop
  | none => p
  | some τ => (yv (tmps.getD τ.1 undef) = some τ.2 → p) ∧ (yv (tmps.getD τ.1 undef) ≠ some τ.2 → v = undef)
theorem tagRel_eq {tag : Tag} {tmps : Array Value} {t : Nat} {p : Prop} : TagRel tag tmps t p ↔ TagR tmps (tmps.getD t undef) p tag := by cases tag <;> exact Iff.rfl

def Under (p b : Bool) (q : Prop) : Prop := p = b → q
instance (p b : Bool) (q : Prop) [Decidable q] : Decidable (Under p b q) := inferInstanceAs (Decidable (p = b → q))
/-- Under what has been asked ahead of it. -/
def holds (A : Env) : List (Nat × Bool) → Prop → Prop
  | [], q => q
  | (t, b) :: r, q => match ent A t with
    | some (_, .lit (.bool p)) => Under p b (holds A r q)
    | _ => holds A r q

def Rec.obl (c : Rec) : Prop := holds c.A c.vs c.out.obl

def oblsR : List Rec → Prop
  | [] => True
  | c :: r => c.obl ∧ oblsR r

theorem oblsR_iff : ∀ {l : List Rec}, oblsR l ↔ ∀ c ∈ l, c.obl
  | [] => by simp [oblsR]
  | c :: r => by simp [oblsR, oblsR_iff (l := r)]

theorem holds_out {g : G} {A : Env} {tmps : Array Value} : ∀ (vs' : List (Nat × Bool)) {vs : List (Nat × Bool)} {q : Prop}, (∀ p ∈ vs', p ∈ vs) →
    (∀ p ∈ vs', ∀ tag av, ent A p.1 = some (tag, av) → R g av (tmps.getD p.1 undef)) → Tr tmps vs → holds A vs' q → q
  | [], _, q, _, _, _, h => h
  | (t, b) :: r, vs, q, hs, h1, hv, h => by
    have hb := hv (t, b) (hs _ (by simp))
    have hrec := holds_out r (q := q) (fun p hp => hs p (List.mem_cons_of_mem _ hp)) (fun p hp => h1 p (List.mem_cons_of_mem _ hp)) hv
    unfold holds at h
    split at h
    · rename_i tag p he
      refine hrec (h ?_)
      have hr := (h1 (t, b) (by simp) tag _ he).lit_inv
      simp only at hr hb
      rw [hr] at hb
      simpa [yv] using hb
    · exact hrec h

theorem vis_rel {g : G} {tmps : Array Value} {vs : List (Nat × Bool)} (hv : Tr tmps vs) {p : Nat × Bool} (hp : p ∈ vs) {tag : Tag} {av : AV}
    (h : TagR tmps (tmps.getD p.1 undef) (R g av (tmps.getD p.1 undef)) tag) : R g av (tmps.getD p.1 undef) := by
  cases tag with
  | none => exact h
  | some σ =>
    refine h.1 ?_
    by_cases hy : yv (tmps.getD σ.1 undef) = some σ.2
    · exact hy
    · have hb := hv p hp
      rw [h.2 hy] at hb; cases hb

/-- In a state where all visible guards hold, the entries of guards read as they say. -/
theorem holds_rel {g : G} {A : Env} {tmps : Array Value} (hA : EnvRel g A tmps) {vs : List (Nat × Bool)} (hv : Tr tmps vs) {q : Prop} (h : holds A vs q) : q :=
  holds_out (g := g) vs (fun _ h => h) (fun p hp tag av he => vis_rel hv hp (tagRel_eq.1 (hA p.1 tag av he))) hv h

theorem wanted_iff {ops : Array Oper} {o : Oper} {tmps : Array Value} {tag : Tag} (h : tagOf ops o = some tag) :
    Region.wanted o (yielded ops tmps) = tagB tmps tag := by
  unfold tagOf at h
  unfold Region.wanted
  split at h
  · rename_i hg; cases h; simp [hg, tagB]
  · rename_i j b hg
    split at h
    · rename_i t ht
      cases h
      simp only [hg]
      unfold yielded
      rw [ht]
      simp only [Option.bind_some]
      congr 1
      rw [Array.getD_eq_getD_getElem?]
      cases tmps[t]? with
      | none => rfl
      | some v => cases v <;> rfl
    · cases h

theorem getD_put {a : Act} {d t : Nat} {v : Value} (hd : d < a.tmps.size) : (a.put (some d) v).tmps.getD t undef = if t = d then v else a.tmps.getD t undef := by
  simp only [Act.put, Array.getD_eq_getD_getElem?]
  by_cases h : t = d
  · subst h; simp [hd]
  · simp [h, Array.getElem?_setIfInBounds_ne (Ne.symm h)]
theorem size_put {a : Act} {dst : Option Tmp} {v : Value} : (a.put dst v).tmps.size = a.tmps.size := by cases dst <;> simp [Act.put]
theorem defers_put {a : Act} {dst : Option Tmp} {v : Value} : (a.put dst v).defers = a.defers := by cases dst <;> simp [Act.put]

/-- No entry hangs on the temporary d. -/
def free (A : Env) (d : Nat) : Bool := A.all fun e => match e.tag with | some τ => τ.1 != d | none => true

theorem ent_mem : ∀ {A : Env} {t : Nat} {tag : Tag} {av : AV}, ent A t = some (tag, av) → ⟨t, tag, av⟩ ∈ A
  | [], _, _, _, h => by cases h
  | e :: r, t, tag, av, h => by
    unfold ent at h
    split at h
    · rename_i he
      cases h
      subst he; simp
    · exact List.mem_cons_of_mem _ (ent_mem h)

theorem free_spec {A : Env} {d : Nat} (h : free A d = true) {t : Nat} {τ : Nat × Bool} {av : AV} (he : ent A t = some (some τ, av)) : τ.1 ≠ d := by
  have := List.all_eq_true.1 h _ (ent_mem he)
  simpa using this

theorem EnvRel.put {g : G} {A : Env} {a : Act} (h : EnvRel g A a.tmps) {dst : Option Tmp} {tag : Tag} {av : AV} {v : Value}
    (hd : ∀ d, dst = some d → d < a.tmps.size ∧ free A d = true ∧ ∀ τ, tag = some τ → τ.1 ≠ d)
    (hr : TagR a.tmps v (R g av v) tag) :
    EnvRel g (putE A dst tag av) (a.put dst v).tmps := by
  cases dst with
  | none => exact h
  | some d =>
    obtain ⟨hd1, hd2, hd3⟩ := hd d rfl
    intro t tag' av' he
    simp only [putE, ent] at he
    split at he
    · rename_i ht
      cases he
      subst ht
      cases tag with
      | none => simp only [TagRel]; rw [getD_put hd1]; simpa [TagR] using hr
      | some τ =>
        have hne := hd3 τ rfl
        simp only [TagRel]
        rw [getD_put hd1, getD_put hd1]
        simpa [hne, TagR] using hr
    · rename_i ht
      have := h t tag' av' he
      have ht' : t ≠ d := fun e => ht e.symm
      cases tag' with
      | none => simp only [TagRel] at this ⊢; rw [getD_put hd1]; simpa [ht'] using this
      | some τ =>
        have hne : τ.1 ≠ d := free_spec hd2 he
        simp only [TagRel] at this ⊢
        rw [getD_put hd1, getD_put hd1]
        simpa [ht', hne] using this

/-- What is asked of the places that a run writes. -/
def dstsOk (ops : Array Oper) (n : Nat) : List Oper → List Nat → Bool
  | [], _ => true
  | o :: r, gs => (match o.dst with
      | some d => decide (d < n) && !gs.contains d
      | none => true) && (match tagOf ops o with
      | some (some τ) => (match o.dst with | some d => τ.1 != d | none => true) && dstsOk ops n r (τ.1 :: gs)
      | _ => dstsOk ops n r gs)

/-- All tags of an environment are among gs. -/
def tagsIn (A : Env) (gs : List Nat) : Prop := ∀ e ∈ A, ∀ τ, e.tag = some τ → τ.1 ∈ gs

theorem free_of {A : Env} {gs : List Nat} {d : Nat} (h : tagsIn A gs) (hd : gs.contains d = false) : free A d = true := by
  refine List.all_eq_true.2 fun e he => ?_
  cases ht : e.tag with
  | none => rfl
  | some τ =>
    have := h e he τ ht
    simp only [bne_iff_ne]
    intro hc; subst hc
    simp [this] at hd

section
variable {P : Program} {ty : TyTab} {Γ : Gam}

theorem recOf_spec {ops : Array Oper} {A : Env} {M : List AObj} {o : Oper} {c : Rec} (h : recOf ty Γ ops A M o = some c) :
    tagOf ops o = some c.tag ∧ c.A = A ∧ c.M = M ∧ c.vs = visOf A 5 c.tag ∧ evOp ty Γ A c.vs M o = some c.out ∧ (∀ τ, c.tag = some τ → c.out.M = none ∨ ent A τ.1 = some (none, .lit (.bool τ.2))) := by
  unfold recOf at h
  split at h
  · cases h
  · rename_i ht
    split at h
    · rename_i out ho; cases h; exact ⟨ht, rfl, rfl, rfl, ho, fun _ h => by cases h⟩
    · cases h
  · rename_i τ ht
    split at h
    · rename_i out ho
      split at h
      · rename_i hM; cases h; exact ⟨ht, rfl, rfl, rfl, ho, fun _ _ => .inl hM⟩
      · split at h
        · rename_i hd; cases h; exact ⟨ht, rfl, rfl, rfl, ho, fun τ' h => .inr (by cases h; exact gdKnown_ent hd)⟩
        · cases h
    · cases h

/-- One operation, wanted or not, as its record says. -/
theorem step_spec (hty : TyOk P ty) (hΓ : GamOk P Γ) {ops : Array Oper} {o : Oper} {A : Env} {g : G} {a : Act} {vs : List (Nat × Bool)} {tag : Tag} {out : Out} {Q : Exit → Act → World → Prop} {next : Act → World → Prop}
    (ht : tagOf ops o = some tag) (hvs : vs = visOf A 5 tag) (he : evOp ty Γ A vs g.M o = some out) (hM : ∀ τ, tag = some τ → out.M = none ∨ ent A τ.1 = some (none, .lit (.bool τ.2))) (hobl : holds A vs out.obl)
    (sm : Sim g) (hA : EnvRel g A a.tmps)
    (hn : ∀ v (g' : G), Sim g' → Keep g g' → g'.X = g.X → g'.M = out.M.getD g.M → TagR a.tmps v (R g' out.av v) tag →
      next (a.put o.dst v) g'.w) :
    if Region.wanted o (yielded ops a.tmps) then o.wp P a g.w next Q ∨ (o.asks P a g.w ∧ LetsOut Q) else next (a.put o.dst undef) g.w := by
  rw [wanted_iff ht]
  by_cases hw : tagB a.tmps tag = true
  · rw [if_pos hw]
    left
    have hv : Tr a.tmps vs := by
      rw [hvs]
      refine Tr.visOf hA 5 tag fun τ hτ => ?_
      subst hτ
      simpa [tagB] using hw
    have ho : out.obl := holds_rel hA hv hobl
    refine (evOp_does hty hΓ he ho sm hA hv).wp fun v w' ⟨β, ρ, h1, h2, h3⟩ => ?_
    refine hn v (g.out out.M β ρ w') h1 h3 rfl rfl ?_
    cases tag with
    | none => exact h2
    | some τ => exact ⟨fun _ => h2, fun hc => absurd (by simpa [tagB] using hw) hc⟩
  · rw [if_neg hw]
    cases tag with
    | none => exact absurd rfl hw
    | some τ =>
      have hy : yv (a.tmps.getD τ.1 undef) ≠ some τ.2 := by simpa [tagB] using hw
      have hm := (hM τ rfl).resolve_right fun he => hy (by
        have hr := hA τ.1 none _ he
        simp only [TagRel] at hr
        rw [hr.lit_inv]; rfl)
      exact hn undef g sm (Keep.refl g) rfl (by rw [hm]; rfl) ⟨fun h => absurd h hy, fun _ => rfl⟩

theorem run_text (hty : TyOk P ty) (hΓ : GamOk P Γ) {ops : Array Oper} {Q : Exit → Act → World → Prop} (n : Nat) : ∀ (l : List Oper) {A A' : Env} {M M' : List AObj} {recs : List Rec} {gs : List Nat} {g : G} {a : Act},
    runR ty Γ ops l A M = some (recs, A', M') → oblsR recs → dstsOk ops n l gs = true → tagsIn A gs → a.tmps.size = n → g.M = M → Sim g → EnvRel g A a.tmps →
    (∀ a' (g' : G), a'.tmps.size = n → a'.defers = a.defers → g'.M = M' → g'.X = g.X → Sim g' → Keep g g' → EnvRel g' A' a'.tmps → Q .normal a' g'.w) → wpList P ops Q l a g.w
  | [], A, A', M, M', recs, gs, g, a, h, _, _, _, hn, hg, sm, hA, hQ => by
    cases h
    exact hQ a g hn rfl hg rfl sm (Keep.refl g) hA
  | o :: r, A, A', M, M', recs, gs, g, a, h, hob, hds, htg, hn, hg, sm, hA, hQ => by
    unfold runR at h
    split at h
    · rename_i c hc
      split at h
      · rename_i l' A2 M2 hrec
        cases h
        obtain ⟨h1, h2, h3, h4, h5, h6⟩ := recOf_spec hc
        obtain ⟨hob1, hob2⟩ := hob
        subst hg
        unfold dstsOk at hds
        simp only [Bool.and_eq_true] at hds
        obtain ⟨hd1, hd2⟩ := hds
        rw [h1] at hd2
        have hfree : ∀ d, o.dst = some d → d < a.tmps.size ∧ free A d = true ∧ ∀ τ, c.tag = some τ → τ.1 ≠ d := fun d hd => by
          rw [hd] at hd1 hd2
          simp only [Bool.and_eq_true, decide_eq_true_eq, Bool.not_eq_true'] at hd1
          refine ⟨by rw [hn]; exact hd1.1, free_of htg hd1.2, fun τ hτ => ?_⟩
          rw [hτ] at hd2
          simp only [Bool.and_eq_true, bne_iff_ne] at hd2
          exact hd2.1
        have hob1' : holds A c.vs c.out.obl := by
          have := hob1
          unfold Rec.obl at this
          rwa [h2] at this
        have key : ∀ v (g' : G), Sim g' → Keep g g' → g'.X = g.X → g'.M = c.out.M.getD g.M → TagR a.tmps v (R g' c.out.av v) c.tag →
            wpList P ops Q r (a.put o.dst v) g'.w := fun v g' s' k hx hM hr => by
          have hds' : ∃ gs', dstsOk ops n r gs' = true ∧ tagsIn (putE A o.dst c.tag c.out.av) gs' := by
            cases hct : c.tag with
            | none =>
              rw [hct] at hd2
              refine ⟨gs, hd2, fun e he τ hτ => ?_⟩
              cases hod : o.dst with
              | none => rw [hod] at he; exact htg e he τ hτ
              | some d =>
                rw [hod] at he
                rcases List.mem_cons.1 he with rfl | he
                · cases hτ
                · exact htg e he τ hτ
            | some σ =>
              rw [hct] at hd2
              simp only [Bool.and_eq_true] at hd2
              refine ⟨σ.1 :: gs, hd2.2, fun e he τ hτ => ?_⟩
              cases hod : o.dst with
              | none => rw [hod] at he; exact List.mem_cons_of_mem _ (htg e he τ hτ)
              | some d =>
                rw [hod] at he
                rcases List.mem_cons.1 he with rfl | he
                · cases hτ; simp
                · exact List.mem_cons_of_mem _ (htg e he τ hτ)
          obtain ⟨gs', hgs1, hgs2⟩ := hds'
          refine run_text hty hΓ n r hrec hob2 hgs1 hgs2 (by rw [size_put]; exact hn) hM s' ((hA.keep k).put hfree hr) fun a' g'' q1 q2 q3 qx q4 q5 q6 => ?_
          exact hQ a' g'' q1 (by rw [q2, defers_put]) q3 (qx.trans hx) q4 (k.trans q5) q6
        have := step_spec (Q := Q) hty hΓ h1 h4 h5 h6 hob1' sm hA key
        unfold wpList
        exact this
      · cases h
    · cases h
end

structure St where
  A : Env
  M : List AObj

/-- Where a run stands: from the state g0, of B objects, it has come to one that reads as σ. -/
structure At (n B : Nat) (g0 g : G) (a : Act) (σ : St) : Prop where
  base : g0.M.length = B
  ax : g.X = g0.X
  keep : Keep g0 g
  mem : g.M = σ.M
  sim : Sim g
  env : EnvRel g σ.A a.tmps
  size : a.tmps.size = n
  defers : a.defers = []

def AWp (P : Program) (n B : Nat) (c : Code) (Q : Exit → St → Prop) (σ : St) : Prop :=
  ∀ g0 g a, At n B g0 g a σ → c.wp P (fun e a' w' => ∃ σ' g', Q e σ' ∧ g'.w = w' ∧ At n B g0 g' a' σ') a g.w

section
variable {P : Program} {n B : Nat} {Q : Exit → St → Prop} {σ : St}

theorem AWp.mono {c : Code} {Q' : Exit → St → Prop} (h : AWp P n B c Q σ) (hq : ∀ e σ, Q e σ → Q' e σ) : AWp P n B c Q' σ :=
  fun g0 g a at_ => wp_mono (h g0 g a at_) fun _ _ _ ⟨σ', g', q, r⟩ => ⟨σ', g', hq _ _ q, r⟩

@[reducible] def thenS (K : St → Prop) (Q : Exit → St → Prop) : Exit → St → Prop
  | .normal, σ => K σ
  | e, σ => Q e σ

theorem AWp.seq {x y : Code} (h : AWp P n B x (thenS (AWp P n B y Q) Q) σ) : AWp P n B (.seq x y) Q σ := by
  intro g0 g a at_
  refine wp_seq (wp_mono (h g0 g a at_) fun e a' w' ⟨σ', g', q, hw, at'⟩ => ?_)
  subst hw
  cases e with
  | normal => exact q g0 g' a' at'
  | exit id => exact ⟨σ', g', q, rfl, at'⟩
  | goto l => exact ⟨σ', g', q, rfl, at'⟩
  | ret => exact ⟨σ', g', q, rfl, at'⟩
  | panic ch => exact ⟨σ', g', q, rfl, at'⟩
  | outgrown => exact ⟨σ', g', q, rfl, at'⟩

theorem AWp.skip (h : Q .normal σ) : AWp P n B .skip Q σ := fun _ g _ at_ => wp_skip ⟨σ, g, h, rfl, at_⟩
theorem AWp.ret (h : Q .ret σ) : AWp P n B .ret Q σ := fun _ g _ at_ => wp_ret ⟨σ, g, h, rfl, at_⟩
theorem AWp.exit {id : Nat} (h : Q (.exit id) σ) : AWp P n B (.exit id) Q σ := fun _ g _ at_ => wp_exit ⟨σ, g, h, rfl, at_⟩

theorem AWp.cond {c : Operand} {x y : Code} {b : Bool} (hc : evX σ.A [] c = some (.lit (.bool b))) (ht : b = true → AWp P n B x Q σ) (hf : b = false → AWp P n B y Q σ) : AWp P n B (.cond c x y) Q σ := by
  intro g0 g a at_
  have hv : a.eval c = .bool b := (at_.env.ev (vs := []) (fun p hp => by cases hp) hc).lit_inv
  exact wp_cond_split hv (fun h => ht h g0 g a at_) (fun h => hf h g0 g a at_)

@[reducible] def blockS (id : Nat) (Q : Exit → St → Prop) : Exit → St → Prop
  | .exit id', σ => if id' = id then Q .normal σ else Q (.exit id') σ
  | e, σ => Q e σ

theorem AWp.block {id : Nat} {c : Code} (h : AWp P n B c (blockS id Q) σ) : AWp P n B (.block id c) Q σ := by
  intro g0 g a at_
  refine wp_block (wp_mono (h g0 g a at_) fun e a' w' ⟨σ', g', q, hw, at'⟩ => ?_)
  cases e with
  | exit id' =>
    simp only [blockS] at q
    simp only [Exit.inBlock]
    split at q
    · rename_i hid; rw [if_pos hid]; exact ⟨σ', g', q, hw, at'⟩
    · rename_i hid; rw [if_neg hid]; exact ⟨σ', g', q, hw, at'⟩
  | normal => exact ⟨σ', g', q, hw, at'⟩
  | goto l => exact ⟨σ', g', q, hw, at'⟩
  | ret => exact ⟨σ', g', q, hw, at'⟩
  | panic ch => exact ⟨σ', g', q, hw, at'⟩
  | outgrown => exact ⟨σ', g', q, hw, at'⟩

/-- A loop: a family of states, with a number that each round lowers. -/
theorem AWp.loop {c : Code} (I : Nat → St → Prop) (k : Nat) (h0 : I k σ)
    (round : ∀ k σ, I k σ → AWp P n B c (thenS (fun σ' => ∃ k', k' < k ∧ I k' σ') Q) σ) : AWp P n B (.loop c) Q σ := by
  intro g0 g a at_
  refine wp_loop_ghost (fun k a w => ∃ σ g, I k σ ∧ g.w = w ∧ At n B g0 g a σ) k ⟨σ, g, h0, rfl, at_⟩ ?_
  rintro k a w ⟨σ, g, hI, rfl, at_⟩
  refine wp_mono (round k σ hI g0 g a at_) fun e a' w' ⟨σ', g', q, hw, at'⟩ => ?_
  cases e with
  | normal =>
    obtain ⟨k', hk, hI'⟩ := q
    exact ⟨k', hk, σ', g', hI', hw, at'⟩
  | exit id => exact ⟨σ', g', q, hw, at'⟩
  | goto l => exact ⟨σ', g', q, hw, at'⟩
  | ret => exact ⟨σ', g', q, hw, at'⟩
  | panic ch => exact ⟨σ', g', q, hw, at'⟩
  | outgrown => exact ⟨σ', g', q, hw, at'⟩

theorem Keep.cut' {g g' : G} (k : Keep g g') {m : Nat} (h1 : g.M.length ≤ m) (h2 : m ≤ g'.M.length) : Keep g (g'.cut m) where
  len := by rw [cut_len h2]; exact h1
  ptr := k.ptr
  rooms t ht e' he' := k.rooms t ht e' (cut_get he').2
  size := k.size
  cells := k.cells
  regs a ha hr hr' := k.regs a ha hr (cut_reg hr')
  blocks := k.blocks
  io := k.io
  xs := k.xs
  xcell := k.xcell
  xblk := k.xblk

/-- What one abstract environment says, another one says: fewer places, weaker values, objects below m. -/
inductive EnvSub (A : Env) : Env → Prop
  | nil : EnvSub A []
  | cons {t : Nat} {av av' : AV} {r : Env} (h : ent A t = some (none, av)) (hw : Weak av av') (hr : EnvSub A r) : EnvSub A (⟨t, none, av'⟩ :: r)

theorem EnvSub.rel {g : G} {A A' : Env} {tmps : Array Value} (h : EnvSub A A') (hA : EnvRel g A tmps) : EnvRel g A' tmps := by
  induction h with
  | nil => intro t tag av he; cases he
  | cons h hw _ ih =>
    intro t tag av he
    simp only [ent] at he
    split at he
    · rename_i ht
      cases he
      subst ht
      exact R.weak (hA _ none _ h) hw
    · exact ih t tag av he

def belE (m : Nat) (A : Env) : Prop := ∀ e ∈ A, e.av.bel m

theorem EnvRel.cut {g : G} {A : Env} {tmps : Array Value} {m : Nat} (hm : m ≤ g.M.length) (h : EnvRel g A tmps) (hb : belE m A) : EnvRel (g.cut m) A tmps := by
  intro t tag av he
  have hbel := hb _ (ent_mem he)
  have := h t tag av he
  cases tag with
  | none => exact R.cut hm this hbel
  | some τ => exact ⟨fun hy => R.cut hm (this.1 hy) hbel, this.2⟩

end

/-! ## Regions -/
/-- What is kept behind a region: of its own places those in 'keep', and what it does not write. -/
def keepE (A1 : Env) : List Nat → Env → Env
  | [], A0 => A0
  | t :: r, A0 => match ent A1 t with
    | some (none, av) => ⟨t, none, av⟩ :: keepE A1 r A0
    | _ => keepE A1 r A0

def dstL : List Oper → List Nat
  | [] => []
  | o :: r => match o.dst with
    | some d => d :: dstL r
    | none => dstL r

def without (ds : List Nat) : Env → Env
  | [] => []
  | e :: r => if ds.contains e.t then without ds r else e :: without ds r

theorem without_ent {ds : List Nat} : ∀ {A : Env} {t : Nat}, ent (without ds A) t = if ds.contains t then none else ent A t
  | [], t => by simp [without, ent]
  | e :: r, t => by
    unfold without
    split
    · rename_i h
      rw [without_ent]
      by_cases ht : ds.contains t
      · simp only [ht, if_true]
      · simp only [ht, if_false, Bool.false_eq_true]
        have hne : e.t ≠ t := fun hc => by subst hc; exact ht h
        simp only [ent, hne, if_false]
    · rename_i h
      simp only [ent]
      by_cases hne : e.t = t
      · subst hne
        have h' : ds.contains e.t = false := by simpa using h
        simp only [if_true, h']; rfl
      · simp only [hne, if_false]
        exact without_ent

theorem without_cons {ds : List Nat} {e : Ent} {r : Env} : without ds (e :: r) = if ds.contains e.t = true then without ds r else e :: without ds r := rfl
theorem without_app {ds es : List Nat} {A : Env} : without (ds ++ es) A = without es (without ds A) := by
  induction A with
  | nil => rfl
  | cons e r ih =>
    simp only [without_cons]
    by_cases h1 : ds.contains e.t = true
    · have : (ds ++ es).contains e.t = true := by simp at h1 ⊢; exact .inl h1
      rw [if_pos this, if_pos h1]; exact ih
    · rw [if_neg h1, without_cons]
      by_cases h2 : es.contains e.t = true
      · have : (ds ++ es).contains e.t = true := by simp at h2 ⊢; exact .inr h2
        rw [if_pos this, if_pos h2]; exact ih
      · have : ¬ (ds ++ es).contains e.t = true := by simp at h1 h2 ⊢; exact ⟨h1, h2⟩
        rw [if_neg this, if_neg h2, ih]

theorem without_rel {g : G} {tmps : Array Value} {ds : List Nat} {A : Env} (h : EnvRel g A tmps) : EnvRel g (without ds A) tmps := by
  intro t tag av he
  rw [without_ent] at he
  split at he
  · cases he
  · exact h t tag av he

theorem run_ent {ty : TyTab} {Γ : Gam} {ops : Array Oper} : ∀ {l : List Oper} {A A' : Env} {M M' : List AObj} {recs : List Rec}, runR ty Γ ops l A M = some (recs, A', M') → ∀ t, t ∉ dstL l → ent A' t = ent A t
  | [], A, A', M, M', recs, h, t, _ => by cases h; rfl
  | o :: r, A, A', M, M', recs, h, t, ht => by
    unfold runR at h
    split at h
    · rename_i c hc
      split at h
      · rename_i l' A2 M2 hrec
        cases h
        unfold dstL at ht
        cases hd : o.dst with
        | none =>
          rw [hd] at ht
          have := run_ent hrec t ht
          rw [this, hd]; rfl
        | some d =>
          rw [hd] at ht
          simp only [List.mem_cons, not_or] at ht
          have := run_ent hrec t ht.2
          rw [this, hd]
          simp only [putE, ent, show ¬ d = t from fun e => ht.1 e.symm, if_false]
      · cases h
    · cases h

theorem keepE_rel {g : G} {tmps : Array Value} {A1 A0 : Env} (h1 : EnvRel g A1 tmps) (h0 : EnvRel g A0 tmps) : ∀ (keep : List Nat), EnvRel g (keepE A1 keep A0) tmps
  | [] => h0
  | t :: r => by
    unfold keepE
    split
    · rename_i av he
      intro u tag av' hu
      simp only [ent] at hu
      split at hu
      · rename_i ht
        cases hu
        subst ht
        exact h1 _ none _ he
      · exact keepE_rel h1 h0 r u tag av' hu
    · exact keepE_rel h1 h0 r

def noTags (A : Env) : Bool := A.all fun e => e.tag.isNone

/-- A region in the text's order, as one step of the state. -/
theorem AWp.region {P : Program} {ty : TyTab} {Γ : Gam} (hty : TyOk P ty) (hΓ : GamOk P Γ) {n B : Nat} {Q : Exit → St → Prop} {id : Nat} {ops : Array Oper} {A A1 : Env} {M M1 : List AObj} {recs : List Rec} (keep : List Nat)
    (hrun : runR ty Γ ops ops.toList A M = some (recs, A1, M1)) (hd : dstsOk ops n ops.toList [] = true) (ht : noTags A = true) (ho : oblsR recs)
    (hq : Q .normal ⟨keepE A1 keep (without (dstL ops.toList) A), M1⟩) : AWp P n B (.region id ops false) Q ⟨A, M⟩ := by
  intro g0 g a at_
  refine wp_region_list (run_text hty hΓ n ops.toList hrun ho hd (fun e he τ hτ => ?_) at_.size at_.mem at_.sim at_.env fun a' g' h1 h2 h3 hx h4 h5 h6 => ?_)
  · have := List.all_eq_true.1 ht e he
    simp [hτ] at this
  · refine ⟨_, g', hq, rfl, at_.base, hx.trans at_.ax, at_.keep.trans h5, h3, h4, keepE_rel h6 (fun t tag av he => ?_) keep, h1, by rw [h2]; exact at_.defers⟩
    rw [without_ent] at he
    split at he
    · cases he
    · rename_i hc
      refine h6 t tag av ?_
      rw [run_ent hrun t (by simpa using hc)]; exact he

/-! ## Calls -/
def resA (ty : TyTab) (A : Env) (M : List AObj) : List ResultVar → Option (List AV × Prop)
  | [] => some ([], True)
  | .tmp t :: r => match getE A [] t, resA ty A M r with
    | some v, some (l, p) => some (v :: l, p)
    | _, _ => none
  | .cell a t :: r => match ty t, getE A [] a, resA ty A M r with
    | some i, some x, some (l, p) => match loadOut i M x with
      | some o => some (o.av :: l, o.obl ∧ p)
      | none => none
    | _, _, _ => none

def resV : List AV → AV
  | [v] => v
  | vs => .tup vs

inductive WObj : AObj → AObj → Prop
  | refl (o : AObj) : WObj o o
  | dead (o : AObj) : WObj o .dead
  | mapr (es : List (AV × AV)) (vis : List Value) (cur : Option Value) (t : Nat) : WObj (.mapr es vis cur t) (.mapo es)
  | blk (l l' : List AV) (hl : l.length = l'.length) (h : ∀ j (h1 : j < l.length) (h2 : j < l'.length), Weak l[j] l'[j]) : WObj (.blk l) (.blk l')

inductive WMem : List AObj → List AObj → Prop
  | nil : WMem [] []
  | cons {o o' : AObj} {l l' : List AObj} (h : WObj o o') (r : WMem l l') : WMem (o :: l) (o' :: l')

theorem WMem.refl : ∀ (l : List AObj), WMem l l
  | [] => .nil
  | o :: l => .cons (.refl o) (WMem.refl l)

theorem WMem.append' {M M' N N' : List AObj} (h : WMem M N) (h' : WMem M' N') : WMem (M ++ M') (N ++ N') := by
  induction h with
  | nil => exact h'
  | cons h r ih => exact .cons h ih

theorem WMem.length {l l' : List AObj} (h : WMem l l') : l.length = l'.length := by
  induction h with
  | nil => rfl
  | cons _ _ ih => simp [ih]

theorem WMem.get {l l' : List AObj} (h : WMem l l') : ∀ {i : Nat} {o' : AObj}, l'[i]? = some o' → ∃ o, l[i]? = some o ∧ WObj o o' := by
  induction h with
  | nil => intro i o' h; simp at h
  | cons h r ih =>
    intro i o' hi
    cases i with
    | zero => simp at hi; subst hi; exact ⟨_, rfl, h⟩
    | succ i => simpa using ih (by simpa using hi)

theorem WObj.covers {o o' : AObj} (h : WObj o o') {b : Nat} {r : Room} {a : Addr} (hc : o'.covers b r a) : o.covers b r a := by
  cases h with
  | refl => exact hc
  | dead => exact hc.elim
  | blk => exact hc
  | mapr => exact .inl hc

theorem R.wmem {g : G} {M' : List AObj} (hm : WMem g.M M') {av : AV} {v : Value} (h : R g av v) : R ⟨M', g.β, g.ρ, g.w, g.X⟩ av v := by
  have hl := hm.length
  have hreg : ∀ a, (⟨M', g.β, g.ρ, g.w, g.X⟩ : G).reg a → g.reg a := fun a h => by
    rcases h with h | ⟨i, o', hi, hc⟩
    · exact .inl h
    obtain ⟨o, ho, hw⟩ := hm.get hi
    exact reg_of ho (hw.covers hc)
  have hroom : ∀ (t e : Nat), M'[t]? = some (AObj.room e) → g.M[t]? = some (AObj.room e) := fun t e he => by
    obtain ⟨o, ho, hw⟩ := hm.get he
    cases hw with
    | refl => exact ho
  induction h with
  | lit v => exact .lit v
  | ptr i off h => exact .ptr (g := ⟨M', g.β, g.ρ, g.w, g.X⟩) i off (by simp only; omega)
  | cptr cells b off xs h1 h2 _ h4 ih => exact .cptr cells b off xs h1 (fun j hj hr => h2 j hj (hreg _ hr)) ih h4
  | nil tok h =>
    refine .nil tok ?_
    cases tok with
    | no => trivial
    | nn => exact h
    | nl => exact h
    | full => trivial
    | own t ep s => exact ⟨by simp only; have := h.1; omega, fun e he => h.2 e (hroom t e he)⟩
  | sl els tok b off s cap xs hs h1 h2 _ h4 ht hc ih =>
    refine .sl els tok b off s cap xs hs h1 (fun i j hi hj hr => h2 i j hi hj (hreg _ hr)) ih h4 ?_ hc
    cases tok with
    | no => trivial
    | nn => trivial
    | nl => exact ht
    | full => exact ht
    | own t ep s' => exact ⟨ht.1, by simp only; have := ht.2.1; omega, fun e he => ht.2.2 e (hroom t e he)⟩
  | agg cells xs hs _ h4 ih => exact .agg cells xs hs ih h4
  | tup cells xs hs _ ih => exact .tup cells xs hs ih
  | iface t av v _ ih => exact .iface t av v ih
  | it i h => exact .it (g := ⟨M', g.β, g.ρ, g.w, g.X⟩) i (by simp only; omega)
  | mp i h => exact .mp (g := ⟨M', g.β, g.ρ, g.w, g.X⟩) i (by simp only; omega)
  | fn f caps bs us h1 h2 _ ih => exact .fn f caps bs us h1 (fun j hj hr => h2 j hj (hreg _ hr)) ih
  | bag els els' v hp _ ih => exact .bag els els' v hp ih
  | clo f caps xs hs _ ih => exact .clo f caps xs hs ih
  | slb i m q h hm => exact .slb (g := ⟨M', g.β, g.ρ, g.w, g.X⟩) i m q (by simp only; omega) hm
  | asl i m z q cap a h hm hc hz ha => exact .asl (g := ⟨M', g.β, g.ρ, g.w, g.X⟩) i m z q cap a (by simp only; omega) hm hc hz ha
  | aptr i idx off z h => exact .aptr (g := ⟨M', g.β, g.ρ, g.w, g.X⟩) i idx off z (by simp only; omega)

theorem Sim.wmem {g : G} {M' : List AObj} (hm : WMem g.M M') (s : Sim g) : Sim ⟨M', g.β, g.ρ, g.w, g.X⟩ where
  fct := Facts.less (g := g) rfl (fun _ h => by
    rcases h with h | ⟨i, o', hi, hc⟩
    · exact .inl h
    obtain ⟨o, ho, hw⟩ := hm.get hi
    exact reg_of ho (hw.covers hc)) s.fct
  blk i cells hi := by
    obtain ⟨o, ho, hw⟩ := hm.get hi
    cases hw with
    | refl =>
      obtain ⟨xs, T, h1, h2, h3, h4⟩ := s.blk i cells ho
      exact ⟨xs, T, h1, h2, fun j hj => (h3 j hj).wmem hm, h4⟩
    | blk l l' hl hwk =>
      obtain ⟨xs, T, h1, h2, h3, h4⟩ := s.blk i l ho
      exact ⟨xs, T, h1, by omega, fun j hj => ((h3 j (by omega)).wmem hm).weak (hwk j (by omega) hj), fun j hj => h4 j (by omega)⟩
  iter i t pos hi := by
    obtain ⟨o, ho, hw⟩ := hm.get hi
    cases hw with
    | refl => exact s.iter i t pos ho
  room t e ht := by
    obtain ⟨o, ho, hw⟩ := hm.get ht
    cases hw with
    | refl => exact s.room t e ho
  disj i j oi oj a hi hj hci hcj := by
    obtain ⟨o1, ho1, hw1⟩ := hm.get hi
    obtain ⟨o2, ho2, hw2⟩ := hm.get hj
    exact s.disj i j o1 o2 a ho1 ho2 (hw1.covers hci) (hw2.covers hcj)
  inb a := fun h => by
    rcases h with h | ⟨i, o', hi, hc⟩
    · exact s.inb a (.inl h)
    obtain ⟨o, ho, hw⟩ := hm.get hi
    exact s.inb a (reg_of ho (hw.covers hc))
  xdis a ha := fun ⟨i, o', hi, hc⟩ => by
    obtain ⟨o, ho, hw⟩ := hm.get hi
    exact s.xdis a ha ⟨i, o, ho, hw.covers hc⟩
  mapo i es hi := by
    obtain ⟨o, ho, hw⟩ := hm.get hi
    cases hw with
    | refl =>
      obtain ⟨o', h1, ents, clock, h2, hst, h3, h4⟩ := s.mapo i es ho
      exact ⟨o', h1, ents, clock, h2, hst, h3, fun j hj => ⟨(h4 j hj).1.wmem hm, (h4 j hj).2.wmem hm⟩⟩
    | mapr _ vis cur t =>
      obtain ⟨_, _, o', oi, h1, _, _, _, _, _, _, ⟨ents, clock, h2, hst, h3, h4⟩, _⟩ := s.mapr i es vis cur t ho
      exact ⟨o', h1, ents, clock, h2, hst, h3, fun j hj => ⟨(h4 j hj).1.wmem hm, (h4 j hj).2.wmem hm⟩⟩
  opq i φ hi := by
    obtain ⟨o, ho, hw⟩ := hm.get hi
    cases hw
    exact s.opq i φ ho
  own i P cur hi := by
    obtain ⟨o, ho, hw⟩ := hm.get hi
    cases hw
    have hreg : ∀ a, (⟨M', g.β, g.ρ, g.w, g.X⟩ : G).reg a → g.reg a := fun a h => by
      rcases h with h | ⟨i, o', hi, hc⟩
      · exact .inl h
      obtain ⟨o, ho, hw⟩ := hm.get hi
      exact reg_of ho (hw.covers hc)
    obtain ⟨ents, clock, h1, h2, h3, h4, h5, h6⟩ := s.own i P cur ho
    refine ⟨ents, clock, h1, h2, h3, h4, P.keep ⟨Nat.le_refl _, fun _ _ h _ => h, fun a _ h h' => h (hreg a h'), fun _ _ _ => rfl, ⟨rfl, rfl⟩, fun _ _ => rfl, fun a h => reg_of ho (.inr h), fun a h => reg_of (g := ⟨M', g.β, g.ρ, g.w, g.X⟩) hi (.inr h), fun a h => s.inb a (hreg a h)⟩ h5, fun c v hc => ?_⟩
    have q := h6 c v hc
    cases v with
    | none => exact q
    | some av =>
      obtain ⟨e, q1, q2, q3⟩ := q
      exact ⟨e, q1, q2, q3.wmem hm⟩
  arr i z els hi := by
    obtain ⟨o, ho, hw⟩ := hm.get hi
    cases hw
    intro hne
    obtain ⟨xs, T, h1, h2, h3⟩ := s.arr i z els ho hne
    exact ⟨xs, T, h1, h2, fun p q r a hp hq => ⟨(h3 p q r a hp hq).1, (h3 p q r a hp hq).2.1.wmem hm, (h3 p q r a hp hq).2.2⟩⟩
  mapr i es vis cur t hi := by
    obtain ⟨o, ho, hw⟩ := hm.get hi
    cases hw with
    | refl =>
      obtain ⟨t1, t2, o', oi, h1, h1', ents0, clock0, seen, e1, e2, ⟨ents, clock, h2, hst, h3, h4⟩, h5⟩ := s.mapr i es vis cur t ho
      exact ⟨by have := hm.length; simp only; omega, t2, o', oi, h1, h1', ents0, clock0, seen, e1, e2, ⟨ents, clock, h2, hst, h3, fun j hj => ⟨(h4 j hj).1.wmem hm, (h4 j hj).2.wmem hm⟩⟩, h5⟩

theorem Keep.wmem {g0 g : G} {M' : List AObj} (hm : WMem g.M M') (k : Keep g0 g) : Keep g0 ⟨M', g.β, g.ρ, g.w, g.X⟩ where
  len := by have := hm.length; have := k.len; simp only; omega
  ptr := k.ptr
  rooms t ht e' he' := by
    obtain ⟨o, ho, hw⟩ := hm.get he'
    cases hw with
    | refl => exact k.rooms t ht e' ho
  size := k.size
  cells := k.cells
  regs a ha hr := fun h => by
    rcases h with h | ⟨i, o', hi, hc⟩
    · exact k.regs a ha hr (.inl h)
    obtain ⟨o, ho, hw⟩ := hm.get hi
    exact k.regs a ha hr (reg_of ho (hw.covers hc))
  blocks := k.blocks
  io := k.io
  xs := k.xs
  xcell := k.xcell
  xblk := k.xblk

def finK (out : Out) (M Mσ : List AObj) : Option (List AV × Prop) → Prop
  | some (l, p) => p ∧ Weak (resV l) out.av ∧ M.length ≤ (out.M.getD M).length ∧ WMem (Mσ.take (out.M.getD M).length) (out.M.getD M) ∧ out.av.bel (out.M.getD M).length ∧ belM (out.M.getD M).length (out.M.getD M)
  | none => False

/-- What a body must come to, for the call to come to 'out'. -/
def retPost (ty : TyTab) (rs : List ResultVar) (out : Out) (M : List AObj) : Exit → St → Prop
  | .normal, σ => finK out M σ.M (resA ty σ.A σ.M rs)
  | .ret, σ => finK out M σ.M (resA ty σ.A σ.M rs)
  | _, _ => False

theorem loadOut_pure {P : Program} {ty : TyTab} (hty : TyOk P ty) {T : TypeId} {i : TyI} (hi : ty T = some i) {g : G} {x : AV} {a : Value} {o : Out} (h : loadOut i g.M x = some o) (ho : o.obl)
    (s : Sim g) (hx : R g x a) : ∃ ad v, a = .pointer (some ad) ∧ (loadVar T ad).run P g.w = .ok v g.w ∧ R g o.av v := by
  unfold loadOut at h
  split at h
  · rename_i cs hp
    obtain ⟨b, off, rfl, xs, h1, h2, h3⟩ := peek_spec s hx hp
    have hag := run_isAgg hty hi g.w
    have hsz := run_sizeOf hty hi g.w
    split at h
    · rename_i hA
      cases h
      have hl := run_loadCells (P := P) g.w ⟨b, off, none⟩ i.size xs (fun j hj => by rw [addr_add]; exact h1 j (Nat.lt_of_lt_of_le hj ho))
      refine ⟨⟨b, off, none⟩, .agg ((List.range i.size).map xs).toArray, rfl, ?_, .agg _ _ ?_ (fun j hj => ?_) (fun j hj => ?_)⟩
      · simp [loadVar, hag, hA, hsz, hl]
      · simp only at ho; simp; omega
      · have hj' : j < i.size := by simp at hj; omega
        have e : ((List.range i.size).map xs).toArray.getD j undef = xs j := by simp [Array.getD, hj']
        rw [e]
        simp only at ho
        simpa using h2 j (by omega)
      · have hj' : j < i.size := by simp at hj; omega
        have e : ((List.range i.size).map xs).toArray.getD j undef = xs j := by simp [Array.getD, hj']
        rw [e]
        simp only at ho
        exact h3 j (by omega)
    · rename_i hA
      cases h
      simp only at ho
      have hl := h1 0 ho
      simp only [Nat.add_zero] at hl
      refine ⟨⟨b, off, none⟩, xs 0, rfl, ?_, ?_⟩
      · simp [loadVar, hag, hA, hl]
      · have := h2 0 ho
        cases cs with
        | nil => simp at ho
        | cons c r => simpa using this
  · cases h

def resOne (tmps : Array Value) : ResultVar → Sem Value
  | .tmp t => pure (tmps.getD t undef)
  | .cell a t => do loadVar t (← asAddr (tmps.getD a undef))

theorem run_results {P : Program} {ty : TyTab} (hty : TyOk P ty) {g : G} (sm : Sim g) {tmps : Array Value} {A : Env} (hA : EnvRel g A tmps) : ∀ {rs : List ResultVar} {l : List AV} {p : Prop}, resA ty A g.M rs = some (l, p) → p →
    ∃ vs, (rs.mapM (resOne tmps)).run P g.w = Result.ok vs g.w ∧ RL g l vs
  | [], l, p, h, _ => by cases h; exact ⟨[], rfl, .nil⟩
  | ResultVar.tmp t :: r, l, p, h, hp => by
    unfold resA at h
    split at h
    · rename_i v l' p' h1 h2
      cases h
      obtain ⟨vs, hr, hl⟩ := run_results hty sm hA h2 hp
      refine ⟨tmps.getD t undef :: vs, ?_, .cons (hA.get (vs := []) (fun p hp => by cases hp) h1) hl⟩
      simp only [List.mapM_cons, resOne, Sem.run_bind, Sem.run_pure, Result.andThen_ok, hr]
    · cases h
  | ResultVar.cell a t :: r, l, p, h, hp => by
    unfold resA at h
    split at h
    · rename_i i x l' p' hi h1 h2
      split at h
      · rename_i o ho
        cases h
        obtain ⟨hp1, hp2⟩ := hp
        obtain ⟨vs, hr, hl⟩ := run_results hty sm hA h2 hp2
        have hx := hA.get (vs := []) (fun p hp => by cases hp) h1
        obtain ⟨ad, v, e, hrun, hv⟩ := loadOut_pure (P := P) hty hi ho hp1 sm hx
        refine ⟨v :: vs, ?_, .cons hv hl⟩
        simp only [List.mapM_cons, resOne, e, asAddr, Sem.run_bind, pure_bind, Sem.run_pure, Result.andThen_ok, hrun, hr]
      · cases h
    · cases h

theorem RL.length {g : G} {l : List AV} {vs : List Value} (h : RL g l vs) : l.length = vs.length := by
  induction h with
  | nil => rfl
  | cons _ _ ih => simp [ih]
theorem RL.get {g : G} {l : List AV} {vs : List Value} (h : RL g l vs) : ∀ j (hj : j < l.length), R g l[j] (vs.getD j undef) := by
  induction h with
  | nil => intro j hj; simp at hj
  | cons h _ ih =>
    intro j hj
    cases j with
    | zero => exact h
    | succ j => simpa using ih j (by simpa using hj)

theorem RL.resV {g : G} {l : List AV} {vs : List Value} (h : RL g l vs) : R g (resV l) (if hs : vs.toArray.size = 1 then vs.toArray[0] else .tuple vs.toArray) := by
  have hl := h.length
  match l, vs, h with
  | [], [], _ => exact .tup _ _ rfl fun j hj => by simp at hj
  | [a], [v], h => exact h.get 0 (by simp)
  | a :: b :: l, v :: u :: vs, h =>
    have hne : ¬ (v :: u :: vs).toArray.size = 1 := by simp
    rw [dif_neg hne]
    exact .tup _ _ (by have := h.length; simp at this ⊢; omega) fun j hj => by
      have := h.get j hj
      rwa [getD_toArray]

/-- The environment of a call: its arguments. -/
def argsE : Nat → List AV → Env
  | _, [] => []
  | k, a :: l => ⟨k, none, a⟩ :: argsE (k + 1) l

theorem argsE_ent : ∀ {k : Nat} {l : List AV} {t : Nat} {tag : Tag} {av : AV}, ent (argsE k l) t = some (tag, av) → tag = none ∧ k ≤ t ∧ l[t - k]? = some av
  | _, [], _, _, _, h => by cases h
  | k, a :: l, t, tag, av, h => by
    simp only [argsE, ent] at h
    split at h
    · rename_i hk
      cases h
      subst hk
      exact ⟨rfl, Nat.le_refl _, by simp⟩
    · obtain ⟨h1, h2, h3⟩ := argsE_ent h
      refine ⟨h1, by omega, ?_⟩
      rw [show t - k = (t - (k + 1)) + 1 by omega]
      simpa using h3

theorem call_of_body {P : Program} {ty : TyTab} (hty : TyOk P ty) {f : FuncId} {fn : Func} {c : Code} (hf : P.funcs[f]? = some fn) (hb : fn.body = some c) (hname : (fn.name == "runtime.NumGoroutine") = false)
    {l : List AV} {M : List AObj} {out : Out} {rs : List ResultVar} (hrs : fn.results.toList = rs) (hl : l.length ≤ fn.ntmps)
    (h : out.obl → belM M.length M → (∀ a ∈ l, a.bel M.length) → AWp P fn.ntmps M.length c (retPost ty rs out M) ⟨argsE 0 l, M⟩) : CallOk P f l M out := by
  intro g vs hM sm hr ho
  have hn : ¬ fn.name = "runtime.NumGoroutine" := by simpa using hname
  refine ⟨by simp [callFunc, hf, hn, hb], ?_⟩
  refine calls_of_wp hf hb ?_
  have hlen := hr.length
  have hsz : (vs.toArray ++ Array.replicate (fn.ntmps - vs.toArray.size) undef).size = fn.ntmps := by simp; omega
  have hbelM : ∀ o ∈ M, o.bel M.length := by subst hM; exact sm.bel
  have hbelA : ∀ a ∈ l, a.bel M.length := by
    intro a ha
    obtain ⟨j, hj, rfl⟩ := List.mem_iff_getElem.1 ha
    subst hM
    exact (hr.get j hj).bel
  have hat : At fn.ntmps M.length g g { tmps := vs.toArray ++ Array.replicate (fn.ntmps - vs.toArray.size) undef, defers := [] } ⟨argsE 0 l, M⟩ := by
    refine ⟨by rw [hM], rfl, Keep.refl g, hM, sm, ?_, hsz, rfl⟩
    intro t tag av he
    obtain ⟨rfl, _, h3⟩ := argsE_ent he
    simp only [Nat.sub_zero] at h3
    have ht : t < l.length := by
      rcases Nat.lt_or_ge t l.length with h | h
      · exact h
      · simp [List.getElem?_eq_none h] at h3
    have e : (vs.toArray ++ Array.replicate (fn.ntmps - vs.toArray.size) undef).getD t undef = vs.getD t undef := by
      have : t < vs.length := by omega
      simp [Array.getD_eq_getD_getElem?, Array.getElem?_append, this]
    simp only [TagRel]
    rw [e]
    have := hr.get t ht
    rw [List.getElem?_eq_getElem ht] at h3
    cases h3
    exact this
  refine wp_mono (h ho hbelM hbelA g g _ hat) fun e a' w' ⟨σ', g', q, hw, at'⟩ => ?_
  subst hw
  have fin : finK out M σ'.M (resA ty σ'.A σ'.M rs) → a'.defers = [] ∧ ∃ v, (results fn a'.tmps).run P g'.w = .ok v g'.w ∧ ∃ u, Ending.returned v = .returned u ∧ Post g out u g'.w := by
    intro hfin
    unfold finK at hfin
    split at hfin
    case h_2 => exact hfin.elim
    rename_i l' p q1
    obtain ⟨q2, q3, q4, q5, q6, q7⟩ := hfin
    refine ⟨at'.defers, ?_⟩
    obtain ⟨us, hus, hru⟩ := run_results (P := P) hty at'.sim at'.env (rs := rs) (by rw [at'.mem]; exact q1) q2
    refine ⟨if hs : us.toArray.size = 1 then us.toArray[0] else .tuple us.toArray, ?_, _, rfl, ?_⟩
    · have : (fn.results.mapM (resOne a'.tmps)).run P g'.w = .ok us.toArray g'.w := by
        rw [Array.mapM_eq_mapM_toList, map_eq_pure_bind, Sem.run_bind, hrs, hus]
        rfl
      have e : results fn a'.tmps = (do let vs ← fn.results.mapM (resOne a'.tmps); pure (if h : vs.size = 1 then vs[0] else .tuple vs)) := by
        unfold results
        congr 2
      rw [e, Sem.run_bind, this]
      rfl
    · have hl2 : (out.M.getD M).length ≤ g'.M.length := by
        have := q5.length
        rw [at'.mem]
        simp only [List.length_take] at this
        omega
      have hMg : out.M.getD g.M = out.M.getD M := by rw [hM]
      generalize out.M.getD M = W at *
      have hw1 : WMem g'.M (W ++ g'.M.drop W.length) := by
        have h1 := q5.append' (.refl (g'.M.drop W.length))
        rwa [← at'.mem, List.take_append_drop] at h1
      have s0 := Sim.wmem hw1 at'.sim
      have k0 := Keep.wmem hw1 at'.keep
      have r0 : R ⟨W ++ g'.M.drop W.length, g'.β, g'.ρ, g'.w, g'.X⟩ out.av (if hs : us.toArray.size = 1 then us.toArray[0] else .tuple us.toArray) := R.wmem hw1 (R.weak hru.resV q3)
      have hl3 : W.length ≤ (W ++ g'.M.drop W.length).length := by simp
      have s1 := s0.cut hl3 (by simp only [List.take_left]; exact q7)
      have k1 := k0.cut' (by rw [hM]; exact q4) hl3
      have r1 := r0.cut hl3 q6
      refine ⟨g'.β, g'.ρ, ?_, ?_, ?_⟩
      · simpa only [G.out, hMg, G.cut, List.take_left, at'.ax] using s1
      · simpa only [G.out, hMg, G.cut, List.take_left, at'.ax] using r1
      · simpa only [G.out, hMg, G.cut, List.take_left, at'.ax] using k1
  cases e with
  | normal => exact fin q
  | ret => exact fin q
  | exit id => exact q.elim
  | goto l => exact q.elim
  | panic ch => exact q.elim
  | outgrown => exact q.elim
end Go.Ab

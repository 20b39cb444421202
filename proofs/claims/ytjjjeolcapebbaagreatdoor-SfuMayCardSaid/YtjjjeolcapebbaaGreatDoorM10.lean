/- What stands between a function's text and the plain function that it computes: checks, calls, loops. No condition: over any program. -/
import Derived.Test.YtjjjeolcapebbaaGreatDoorAb6
section
namespace Go.Ab

/-! ### Plain functions that may fail -/
open Classical in
noncomputable def need {α : Type} (p : Prop) (x : Option α) : Option α := if p then x else none
theorem need_some {α : Type} {p : Prop} {x : Option α} {r : α} (h : need p x = some r) : p ∧ x = some r := by
  unfold need at h
  split at h
  · rename_i hp; exact ⟨hp, h⟩
  · cases h
theorem bind_some' {α β : Type} {x : Option α} {k : α → Option β} {r : β} (h : x.bind k = some r) : ∃ v, x = some v ∧ k v = some r := by
  cases x with
  | none => cases h
  | some v => exact ⟨v, rfl, h⟩
theorem cond_t {α : Type} {b : Bool} {x y : α} {z : α} (hb : b = true) (h : (bif b then x else y) = z) : x = z := by subst hb; exact h
theorem cond_f {α : Type} {b : Bool} {x y : α} {z : α} (hb : b = false) (h : (bif b then x else y) = z) : y = z := by subst hb; exact h
theorem some_inj {α : Type} {a b : α} (h : some a = some b) : b = a := (Option.some.inj h).symm

/-- What a round comes to: another one, or the loop's end. -/
inductive Fl (S T : Type) where
  | go (s : S)
  | out (t : T)

def iterF {S T : Type} (body : S → Option (Fl S T)) : Nat → S → Option T
  | 0, _ => none
  | n + 1, s => match body s with
    | some (.go s') => iterF body n s'
    | some (.out t) => some t
    | none => none

theorem iterF_mono {S T : Type} {body : S → Option (Fl S T)} : ∀ {n m : Nat} {s : S} {t : T}, n ≤ m → iterF body n s = some t → iterF body m s = some t
  | 0, _, _, _, _, h => by cases h
  | n + 1, 0, _, _, hm, _ => absurd hm (by omega)
  | n + 1, m + 1, s, t, hm, h => by
    unfold iterF at h ⊢
    split at h
    · exact iterF_mono (by omega) h
    · exact h
    · cases h

open Classical in
noncomputable def loopF {S T : Type} (body : S → Option (Fl S T)) (s : S) : Option T :=
  if h : ∃ t n, iterF body n s = some t then some h.choose else none

theorem loopF_iff {S T : Type} {body : S → Option (Fl S T)} {s : S} {t : T} : loopF body s = some t ↔ ∃ n, iterF body n s = some t := by
  unfold loopF
  constructor
  · intro h
    split at h
    · rename_i hex
      cases h
      exact hex.choose_spec
    · cases h
  · rintro ⟨n, hn⟩
    have hex : ∃ t n, iterF body n s = some t := ⟨t, n, hn⟩
    rw [dif_pos hex]
    obtain ⟨m, hm⟩ := hex.choose_spec
    have h1 := iterF_mono (Nat.le_max_left n m) hn
    have h2 := iterF_mono (Nat.le_max_right n m) hm
    rw [h1] at h2
    exact h2.symm

theorem loopF_eq {S T : Type} (body : S → Option (Fl S T)) (s : S) : loopF body s = match body s with
    | some (.go s') => loopF body s'
    | some (.out t) => some t
    | none => none := by
  apply Option.ext
  intro t
  rw [loopF_iff]
  constructor
  · rintro ⟨n, hn⟩
    cases n with
    | zero => cases hn
    | succ n =>
      unfold iterF at hn
      split at hn
      · exact loopF_iff.2 ⟨n, hn⟩
      · exact hn
      · cases hn
  · intro h
    split at h
    · rename_i s' hb
      obtain ⟨n, hn⟩ := loopF_iff.1 h
      exact ⟨n + 1, by unfold iterF; rw [hb]; exact hn⟩
    · rename_i t' hb
      exact ⟨1, by unfold iterF; rw [hb]; exact h⟩
    · cases h

/-- A loop ends, and what it ends in, by an invariant and a measure. -/
theorem loopF_ends {S T : Type} {body : S → Option (Fl S T)} (I : S → Prop) (Q : T → Prop) (μ : S → Nat)
    (h : ∀ s, I s → ∃ f, body s = some f ∧ match f with | .go s' => I s' ∧ μ s' < μ s | .out t => Q t) : ∀ s, I s → ∃ t, loopF body s = some t ∧ Q t := by
  intro s
  induction hn : μ s using Nat.strongRecOn generalizing s with
  | _ n ih =>
    intro hI
    obtain ⟨f, hf, hq⟩ := h s hI
    rw [loopF_eq, hf]
    cases f with
    | go s' =>
      obtain ⟨h1, h2⟩ := hq
      exact ih (μ s') (by omega) s' rfl h1
    | out t => exact ⟨t, rfl, hq⟩

/-! ### Steps of a walk -/
section
variable {P : Program} {n B : Nat} {Q : Exit → St → Prop} {σ : St}

def exS (σ' : St) : Exit → St → Prop
  | .normal, σ => σ = σ'
  | _, _ => False

theorem AWp.then {x y : Code} (σ' : St) (h : AWp P n B x (exS σ') σ) (h2 : AWp P n B y Q σ') : AWp P n B (.seq x y) Q σ :=
  AWp.seq (AWp.mono h fun e σ'' q => by
    cases e with
    | normal => have : σ'' = σ' := q; subst this; exact h2
    | _ => exact q.elim)
/-- The same point of a run, read otherwise. -/
def See (n B : Nat) (σ σ' : St) : Prop := ∀ g0 g a, At n B g0 g a σ → ∃ g', g'.w = g.w ∧ At n B g0 g' a σ'
/-- Nothing is left to run. -/
def Eps (n B : Nat) (Q : Exit → St → Prop) (σ : St) : Prop := ∀ g0 g a, At n B g0 g a σ → ∃ σ' g', Q .normal σ' ∧ g'.w = g.w ∧ At n B g0 g' a σ'
theorem Eps.done (h : Q .normal σ) : Eps n B Q σ := fun _ g _ at_ => ⟨σ, g, h, rfl, at_⟩
theorem AWp.last {x : Code} (σ' : St) (h : AWp P n B x (exS σ') σ) (h2 : Q .normal σ') : AWp P n B x Q σ :=
  AWp.mono h fun e σ'' q => by
    cases e with
    | normal => have : σ'' = σ' := q; subst this; exact h2
    | _ => exact q.elim

theorem rr {α β : Type} {a : α} {b : β} : a = a ∧ b = b := ⟨rfl, rfl⟩
theorem AWp.thn {x y : Code} {A : Env} {M : List AObj} (h : AWp P n B x (exS ⟨A, M⟩) σ) (h2 : AWp P n B y Q ⟨A, M⟩) : AWp P n B (.seq x y) Q σ := AWp.then ⟨A, M⟩ h h2
theorem AWp.lst {x : Code} {A : Env} {M : List AObj} (h : AWp P n B x (exS ⟨A, M⟩) σ) (h2 : Q .normal ⟨A, M⟩) : AWp P n B x Q σ := AWp.last ⟨A, M⟩ h h2
theorem AWp.cnd {c : Operand} {x y : Code} {b : Bool} {α : Type} {u v z : α} (hr : (bif b then u else v) = z) (hc : evX σ.A [] c = some (.lit (.bool b))) (ht : b = true → u = z → AWp P n B x Q σ) (hf : b = false → v = z → AWp P n B y Q σ) : AWp P n B (.cond c x y) Q σ :=
  AWp.cond hc (fun h => ht h (cond_t h hr)) (fun h => hf h (cond_f h hr))
/-- What a region must come to. -/
def regE (keep dead : List Nat) (ops : List Oper) (σ σ' : St) : Option (List Rec × Env × List AObj) → Prop
  | some (recs, A1, M1) => oblsR recs ∧ keepE A1 keep (without (dstL ops ++ dead) σ.A) = σ'.A ∧ M1 = σ'.M
  | none => False
def regF (ty : TyTab) (Γ : Gam) (ps : List (Nat × Nat)) (info : List (Bool × List Nat)) (keep dead : List Nat) (ops : List Oper) (σ σ' : St) : Option (List Rec × Env × List AObj) → Prop
  | some (recs, A1, M1) => oblsR recs ∧ recs.map infoOf = info ∧ crossAll ty Γ ops recs σ.M ps ∧ keepE A1 keep (without (dstL ops ++ dead) σ.A) = σ'.A ∧ M1 = σ'.M
  | none => False

/-- Places that are not read any more are let go. -/
theorem AWp.drop {c : Code} (dead : List Nat) {A : Env} {M : List AObj} (h : AWp P n B c Q ⟨without dead A, M⟩) : AWp P n B c Q ⟨A, M⟩ := by
  intro g0 g a at_
  exact h g0 g a ⟨at_.base, at_.ax, at_.keep, at_.mem, at_.sim, without_rel at_.env, at_.size, at_.defers⟩

variable {ty : TyTab} {Γ : Gam}
/-- What was let go at a region's head. -/
theorem AWp.reg (hty : TyOk P ty) (hΓ : GamOk P Γ) {id : Nat} {ops : Array Oper} {keep dead : List Nat} {σ' : St} (hd : dstsOk ops n ops.toList [] = true) (hn : noTags σ.A = true)
    (h : regE keep dead ops.toList σ σ' (runR ty Γ ops ops.toList σ.A σ.M)) : AWp P n B (.region id ops false) (exS σ') σ := by
  obtain ⟨A, M⟩ := σ
  obtain ⟨A', M'⟩ := σ'
  unfold regE at h
  split at h
  · rename_i recs A1 M1 hrun
    obtain ⟨h1, h2, h3⟩ := h
    simp only at h2 h3
    subst h3
    subst h2
    intro g0 g a at_
    refine wp_region_list (run_text hty hΓ n ops.toList hrun h1 hd (fun e he τ hτ => ?_) at_.size at_.mem at_.sim at_.env fun a' g' q1 q2 q3 hx q4 q5 q6 => ?_)
    · have := List.all_eq_true.1 hn e he
      simp [hτ] at this
    · refine ⟨_, g', rfl, rfl, at_.base, hx.trans at_.ax, at_.keep.trans q5, q3, q4, keepE_rel q6 ?_ keep, q1, by rw [q2]; exact at_.defers⟩
      rw [without_app]
      refine without_rel fun t tag av he => ?_
      rw [without_ent] at he
      split at he
      · cases he
      · rename_i hc
        refine q6 t tag av ?_
        rw [run_ent hrun t (by simpa using hc)]; exact he
  · exact h.elim

theorem AWp.regD (hm : P.follows .mixedOrders = true) (hty : TyOk P ty) (hΓ : GamOk P Γ) {id : Nat} {ops : Array Oper} {keep dead : List Nat} (ps : List (Nat × Nat)) (info : List (Bool × List Nat)) {σ' : St} (hd : drawB n ps ops.toList info = true) (hn : noTags σ.A = true)
    (h : regF ty Γ ps info keep dead ops.toList σ σ' (runR ty Γ ops ops.toList σ.A σ.M)) : AWp P n B (.region id ops true) (exS σ') σ := by
  obtain ⟨A, M⟩ := σ
  obtain ⟨A', M'⟩ := σ'
  unfold regF at h
  split at h
  · rename_i recs A1 M1 hrun
    obtain ⟨h1, hi, hc, h2, h3⟩ := h
    simp only at h2 h3 hc
    subst h3
    subst h2
    refine AWp.regionD' hm hty hΓ keep dead ps hrun (by rw [hi]; exact hd) hc hn h1 rfl
  · exact h.elim

/-! ### Ways that meet, and loops -/
/-- What follows ways that meet. -/
def flC {V X : Type} (f : Fl V X) (k : V → Option X) : Option X :=
  match f with
  | .go v => k v
  | .out x => some x
def optC {α β : Type} (o : Option α) (x : β) (f : α → β) : β :=
  match o with
  | none => x
  | some a => f a
theorem optC_n {α β : Type} {o : Option α} {x : β} {f : α → β} {z : β} (h : o = none) (q : optC o x f = z) : x = z := by subst h; exact q
theorem optC_s {α β : Type} {o : Option α} {x : β} {f : α → β} {z : β} {a : α} (h : o = some a) (q : optC o x f = z) : f a = z := by subst h; exact q

def meetQ {V X Gh : Type} (B : Nat) (E : V → Gh → St) (Qr : X → St → Prop) (f : Fl V X) (e : Exit) (σ' : St) : Prop :=
  match f with
  | .go v => e = .normal ∧ ∃ γ m, Conv B m σ' (E v γ)
  | .out x => e = .ret ∧ Qr x σ'
def roundQ {S V X Gh Ga : Type} (B : Nat) (E : S → Gh → St) (EA : V → Ga → St) (id : Nat) (Qr : X → St → Prop) (f : Fl S (Fl V X)) (e : Exit) (σ' : St) : Prop :=
  match f with
  | .go s => e = .normal ∧ ∃ γ m, Conv B m σ' (E s γ)
  | .out (.go v) => e = .exit id ∧ ∃ γ m, Conv B m σ' (EA v γ)
  | .out (.out x) => e = .ret ∧ Qr x σ'
theorem meet_go {V X Gh : Type} {E : V → Gh → St} {Qr : X → St → Prop} {v : V} (γ : Gh) (m : Nat) (h : Conv B m σ (E v γ)) : meetQ B E Qr (.go v) .normal σ := ⟨rfl, γ, m, h⟩
theorem round_go {S V X Gh Ga : Type} {E : S → Gh → St} {EA : V → Ga → St} {id : Nat} {Qr : X → St → Prop} {s : S} (γ : Gh) (m : Nat) (h : Conv B m σ (E s γ)) : roundQ B E EA id Qr (.go s) .normal σ := ⟨rfl, γ, m, h⟩
theorem round_out {S V X Gh Ga : Type} {E : S → Gh → St} {EA : V → Ga → St} {id : Nat} {Qr : X → St → Prop} {v : V} (γ : Ga) (m : Nat) (h : Conv B m σ (EA v γ)) : roundQ B E EA id Qr (.out (.go v)) (.exit id) σ := ⟨rfl, γ, m, h⟩
theorem round_ret {S V X Gh Ga : Type} {E : S → Gh → St} {EA : V → Ga → St} {id : Nat} {Qr : X → St → Prop} {x : X} (h : Qr x σ) : roundQ B E EA id Qr (.out (.out x)) .ret σ := ⟨rfl, h⟩
/-- A loop as a plain one; γ: what the plain one does not know of. -/
theorem AWp.loopF {S T Gh : Type} {body : S → Option (Fl S T)} (E : S → Gh → St) {s0 : S} {t : T} (h : Go.Ab.loopF body s0 = some t) (γ0 : Gh) (m : Nat) (hc : Conv B m σ (E s0 γ0)) {c : Code} (Qx : T → Exit → St → Prop)
    (round : ∀ s f γ, body s = some f → AWp P n B c (thenS (fun σ' => ∃ s' γ' m', f = .go s' ∧ Conv B m' σ' (E s' γ')) (fun e σ' => ∃ t', f = .out t' ∧ Qx t' e σ')) (E s γ))
    (hq : ∀ e σ', Qx t e σ' → Q e σ') : AWp P n B (.loop c) Q σ := by
  obtain ⟨k, hk⟩ := loopF_iff.1 h
  refine AWp.loop' (fun k σ => ∃ s γ, σ = E s γ ∧ iterF body k s = some t) k m (E s0 γ0) hc ⟨s0, γ0, rfl, hk⟩ ?_
  rintro k σ ⟨s, γ, rfl, hk⟩
  cases k with
  | zero => cases hk
  | succ k =>
    unfold iterF at hk
    split at hk
    · rename_i s' hb
      refine AWp.mono (round s _ γ hb) fun e σ' q => ?_
      cases e with
      | normal =>
        obtain ⟨s2, γ', m', h1, h2⟩ := q
        cases h1
        exact ⟨k, m', _, by omega, h2, s', γ', rfl, hk⟩
      | _ => obtain ⟨t', h1, _⟩ := q; cases h1
    · rename_i t' hb
      cases hk
      refine AWp.mono (round s _ γ hb) fun e σ' q => ?_
      cases e with
      | normal => obtain ⟨_, _, _, h1, _⟩ := q; cases h1
      | _ => obtain ⟨t', h1, h2⟩ := q; cases h1; exact hq _ _ h2
    · cases hk

theorem AWp.meetF {V X Gh : Type} {x y : Code} {sub : Option (Fl V X)} {k : V → Option X} {r : X} (EA : V → Gh → St) (Qr : X → St → Prop) (h : (sub.bind fun f => flC f k) = some r)
    (hx : ∀ f, sub = some f → AWp P n B x (meetQ B EA Qr f) σ) (hy : ∀ v γ, k v = some r → AWp P n B y Q (EA v γ)) (hr : ∀ σ', Qr r σ' → Q .ret σ') : AWp P n B (.seq x y) Q σ := by
  obtain ⟨f, hf, hk⟩ := bind_some' h
  refine AWp.seq (AWp.mono (hx f hf) fun e σ' q => ?_)
  cases f with
  | go v =>
    obtain ⟨rfl, γ, m, hc⟩ := q
    exact AWp.conv hc (hy v γ hk)
  | out z =>
    obtain ⟨rfl, q⟩ := q
    cases hk
    exact hr σ' q

theorem AWp.loopE {S V X Gh Ga : Type} {id : Nat} {c : Code} {body : S → Option (Fl S (Fl V X))} {s0 : S} {k : V → Option X} {r : X} (E : S → Gh → St) (EA : V → Ga → St) (Qr : X → St → Prop) (h : ((Go.Ab.loopF body s0).bind fun f => flC f k) = some r)
    (γ0 : Gh) (m : Nat) (hc : Conv B m σ (E s0 γ0)) (round : ∀ s f γ, body s = some f → AWp P n B c (roundQ B E EA id Qr f) (E s γ))
    (hy : ∀ v γ σ' m', k v = some r → Conv B m' σ' (EA v γ) → Q .normal σ') (hr : ∀ σ', Qr r σ' → Q .ret σ') : AWp P n B (.block id (.loop c)) Q σ := by
  obtain ⟨t, ht, hk⟩ := bind_some' h
  refine AWp.block (AWp.loopF E ht γ0 m hc (fun t e σ' => match t with
    | .go v => e = .exit id ∧ ∃ γ m, Conv B m σ' (EA v γ)
    | .out x => e = .ret ∧ Qr x σ') (fun s f γ hb => AWp.mono (round s f γ hb) fun e σ' q => ?_) fun e σ' q => ?_)
  · cases f with
    | go s' =>
      obtain ⟨rfl, γ', m', q⟩ := q
      exact ⟨s', γ', m', rfl, q⟩
    | out t =>
      cases t with
      | go v =>
        obtain ⟨rfl, q⟩ := q
        exact ⟨_, rfl, rfl, q⟩
      | out x =>
        obtain ⟨rfl, q⟩ := q
        exact ⟨_, rfl, rfl, q⟩
  · cases t with
    | go v =>
      obtain ⟨rfl, γ, m', q⟩ := q
      simp only [blockS, if_true]
      exact hy v γ σ' m' hk q
    | out x =>
      obtain ⟨rfl, q⟩ := q
      cases hk
      exact hr σ' q

/-- A slice without spare place gets a token. -/
theorem AWp.equip {c : Code} {A : Env} {M : List AObj} (t s : Nat) {els : List (List AV)} (h : ent A t = some (none, .sl els .full)) (hs : ∀ q ∈ els, q.length = s)
    (h2 : AWp P n B c Q ⟨⟨t, none, .sl els (.own M.length 0 s)⟩ :: A, M ++ [.room 0]⟩) : AWp P n B c Q ⟨A, M⟩ := by
  intro g0 g a at_
  have hx : R g (.sl els .full) (a.tmps.getD t undef) := at_.env t none _ h
  obtain ⟨r, hr, hx'⟩ := hx.equip s hs
  have k := keep_equip (g := g) (ep := 0) hr
  have hM : g.M = M := at_.mem
  refine h2 g0 (g.equip r) a ⟨at_.base, at_.ax, at_.keep.trans k, by simp [G.equip, hM], sim_equip hr at_.sim, fun u tag av he => ?_, at_.size, at_.defers⟩
  simp only [ent] at he
  split at he
  · rename_i hu
    cases he
    subst hu
    rw [← hM]; exact hx'
  · exact EnvRel.keep k at_.env u tag av he

/-- A function's end. -/
theorem fin_ret {rs : List ResultVar} {out : Out} {M : List AObj} (h : finK out M σ.M (resA ty σ.A σ.M rs)) : retPost ty rs out M .ret σ := h
theorem fin_norm {rs : List ResultVar} {out : Out} {M : List AObj} (h : finK out M σ.M (resA ty σ.A σ.M rs)) : retPost ty rs out M .normal σ := h

/-- A contract of which what it asks stands ahead of it. -/
theorem callOk_of {f : FuncId} {l : List AV} {M : List AObj} {av : AV} {M' : Option (List AObj)} {o : Prop} (h : o → CallOk P f l M { av := av, M := M' }) : CallOk P f l M { av := av, M := M', obl := o } :=
  fun g vs hM sm hr ho => h ho g vs hM sm hr trivial
end
end Go.Ab
end
section
namespace Go.Ab

/-- A value of no meaning, closed to simp. -/
def dflt {α : Type} [Inhabited α] : α := default
def nthI {α : Type} [Inhabited α] (l : List α) (n : Int) : α := l.getD n.toNat default
def eNum (k : IntKind) (x : Int) : List AV := [.lit (.int k x)]
def decI : List AV → Int
  | [.lit (.int _ x)] => x
  | _ => 0
def eTxt (x : ByteArray) : List AV := [.lit (.string x)]
def decS : List AV → ByteArray
  | [.lit (.string x)] => x
  | _ => ⟨⟨[]⟩⟩
def decL {α : Type} (d : List AV → α) : List AV → List α
  | [.sl l _] => l.map d
  | _ => []

@[simp] theorem notB_f : notB false = true := by decide
@[simp] theorem under_true (p b : Bool) : Under p b True ↔ True := ⟨fun _ => trivial, fun _ _ => trivial⟩
attribute [simp] List.range_succ
theorem lenL_map {α β : Type} (f : α → β) (l : List α) : lenL (l.map f) = lenL l := by simp [lenL]
theorem map_appL {α β : Type} (f : α → β) (a b : List α) : (appL a b).map f = appL (a.map f) (b.map f) := by simp [appL]
theorem map_cutL {α β : Type} (f : α → β) (a : List α) (l h : Int) : (cutL a l h).map f = cutL (a.map f) l h := by simp [cutL, List.map_take, List.map_drop]
theorem map_repL {α β : Type} (f : α → β) (n : Int) (a : α) : (repL n a).map f = repL n (f a) := by simp [repL]
@[simp] theorem lenL_nil {α : Type} : lenL ([] : List α) = 0 := by simp [lenL]
@[simp] theorem lenL_cons {α : Type} (a : α) (l : List α) : lenL (a :: l) = lenL l + 1 := by simp [lenL]
attribute [simp] lenL_map map_appL map_cutL map_repL
@[simp] theorem bel_cutL {n : Nat} {a : List (List AV)} {l h : Int} (q : belLL n a) : belLL n (cutL a l h) := belLL_iff.2 fun x hx => belLL_iff.1 q x (List.mem_of_mem_drop (List.mem_of_mem_take hx))
theorem bel_map {α : Type} {f : α → List AV} {n : Nat} (h : ∀ x, belL n (f x)) (l : List α) : belLL n (l.map f) := belLL_iff.2 fun a ha => by
  obtain ⟨x, _, rfl⟩ := List.mem_map.1 ha
  exact h x
theorem ren_map {α : Type} {f : α → List AV} {σ : Nat → Nat} (h : ∀ x, renL σ (f x) = f x) (l : List α) : renLL σ (l.map f) = l.map f := by
  rw [renLL_map, List.map_map]
  congr 1
  funext x; exact h x
attribute [simp] AV.ren renL renLL Tok.ren putAll optC regE regF
@[simp] theorem blk_ren (σ : Nat → Nat) (cs : List AV) : (AObj.blk cs).ren σ = .blk (renL σ cs) := rfl
@[simp] theorem room_ren (σ : Nat → Nat) (e : Nat) : (AObj.room e).ren σ = .room e := rfl
@[simp] theorem iter_ren (σ : Nat → Nat) (s : ByteArray) (p : Nat) : (AObj.iter s p).ren σ = .iter s p := rfl
@[simp] theorem opq_ren (σ : Nat → Nat) (φ : Opq) : (AObj.opq φ).ren σ = .opq φ := rfl
@[simp] theorem own_ren0 (σ : Nat → Nat) (P : Own) : (AObj.own P none).ren σ = .own P none := rfl
@[simp] theorem own_ren1 (σ : Nat → Nat) (P : Own) (k : Value) : (AObj.own P (some (k, none))).ren σ = .own P (some (k, none)) := rfl
@[simp] theorem own_ren2 (σ : Nat → Nat) (P : Own) (k : Value) (v : AV) : (AObj.own P (some (k, some v))).ren σ = .own P (some (k, some (v.ren σ))) := rfl
@[simp] theorem dead_ren (σ : Nat → Nat) : AObj.dead.ren σ = .dead := rfl
/-- An element, off rows that are rows of values. -/
theorem nth_rows {α : Type} [Inhabited α] {f : α → List AV} {d : List AV → α} {z : List AV} (hz : z = f default) {rows : List (List AV)} (h : rows = (rows.map d).map f) (n : Int) : nthL rows n.toNat z = f (nthI (rows.map d) n) := by
  generalize rows.map d = l at h
  subst h
  subst hz
  simp only [nthL, nthI, List.getD_eq_getElem?_getD, List.getElem?_map]
  cases l[n.toNat]? <;> rfl

theorem nth_rowsk {α : Type} [Inhabited α] {f : α → List AV} {d : List AV → α} {z : List AV} (hz : z = f default) {rows : List (List AV)} (h : rows = (rows.map d).map f) (k : Nat) : nthL rows k z = f (nthI (rows.map d) (k : Int)) := by
  have := nth_rows hz h (k : Int)
  simpa using this
/-! Numbers, truths, texts -/
@[simp] theorem numOf_lit (k : IntKind) (x : Int) : numOf [.lit (.int k x)] = x := rfl
@[simp] theorem decI_lit (k : IntKind) (x : Int) : decI [.lit (.int k x)] = x := rfl
@[simp] theorem decS_lit (x : ByteArray) : decS [.lit (.string x)] = x := rfl
@[simp] theorem encI_def (k : IntKind) (x : Int) : eNum k x = [.lit (.int k x)] := rfl
@[simp] theorem map_u8 (l : List Int) : l.map (fun n => [AV.lit (Value.int .u8 n)]) = l.map (eNum .u8) := rfl
@[simp] theorem encS_def (x : ByteArray) : eTxt x = [.lit (.string x)] := rfl
@[simp] theorem decI_comp (k : IntKind) : decI ∘ eNum k = id := funext fun _ => by rfl
@[simp] theorem encI_comp2 (k : IntKind) : (eNum k ∘ decI) ∘ eNum k = eNum k := rfl
@[simp] theorem encS_comp2 : (eTxt ∘ decS) ∘ eTxt = eTxt := rfl
@[simp] theorem encI_bel (k : IntKind) (l : List Int) (n : Nat) : belLL n (l.map (eNum k)) := bel_map (fun _ => by simp) l
@[simp] theorem encI_ren (σ : Nat → Nat) (k : IntKind) (l : List Int) : renLL σ (l.map (eNum k)) = l.map (eNum k) := ren_map (fun _ => by simp) l
@[simp] theorem encI_nth {k : IntKind} {rows : List (List AV)} (n : Int) (h : rows = (rows.map decI).map (eNum k)) : nthL rows n.toNat [.lit (.int k 0)] = [.lit (.int k (nthI (rows.map decI) n))] := nth_rows (f := eNum k) rfl h n
@[simp low] theorem encI_nthk {k : IntKind} {rows : List (List AV)} (j : Nat) (h : rows = (rows.map decI).map (eNum k)) : nthL rows j [.lit (.int k 0)] = [.lit (.int k (nthI (rows.map decI) (j : Int)))] := nth_rowsk (f := eNum k) rfl h j
/-! From a contract at a memory of its own to one at every memory -/
theorem RL.weak {g : G} {l l' : List AV} {vs : List Value} (h : RL g l vs) (hw : WeakL l l') : RL g l' vs := by
  induction h generalizing l' with
  | nil => cases l' with
    | nil => exact .nil
    | cons => exact hw.elim
  | cons h r ih => cases l' with
    | nil => exact hw.elim
    | cons b l' => exact .cons (R.weak h hw.1) (ih hw.2)
theorem callOk_conv {P : Program} {f : FuncId} {l l' : List AV} {M : List AObj} {out : Out} {av' : AV} {M' : Option (List AObj)} (q : CallOk P f l M out) (ho : out.obl) (hl : WeakL l' l) (ha : out.av = av') (hm : out.M.getD M = M'.getD M) :
    CallOk P f l' M { av := av', M := M' } := by
  subst ha
  intro g vs hM sm hr _
  obtain ⟨c1, c2⟩ := q g vs hM sm (hr.weak hl) ho
  refine ⟨c1, c2.mono fun e w' => ?_⟩
  rintro ⟨v, rfl, β, ρ, s, r, k⟩
  have e : g.out out.M β ρ w' = g.out M' β ρ w' := by simp only [G.out, hM, hm]
  exact ⟨v, rfl, β, ρ, e ▸ s, e ▸ r, e ▸ k⟩

/-- A cell of a row; the row of a value. -/
@[simp] def nthE (l : List AV) (n : Nat) : Option AV := l[n]?
/-- 'slices.Clone', of elements of that many cells and bytes. -/
@[simp] def cloneS (size bytes : Nat) : Sp
  | [.sl els _], M => some { av := .sl els (.own M.length 1 size), M := some (M ++ [.room 1]), obl := (∀ q ∈ els, q.length = size) ∧ AppB 0 (lenL els) bytes ∧ marked M = false }
  | _, _ => none
/-! ### Maps of plain keys and values -/
def kI (k : IntKind) (x : Int) : AV := .lit (.int k x)
def kS (x : ByteArray) : AV := .lit (.string x)
def dkI : AV → Int
  | .lit (.int _ x) => x
  | _ => 0
def dkS : AV → ByteArray
  | .lit (.string x) => x
  | _ => ⟨⟨[]⟩⟩
@[simp] theorem dkI_kI (k : IntKind) (x : Int) : dkI (kI k x) = x := rfl
@[simp] theorem dkS_kS (x : ByteArray) : dkS (kS x) = x := rfl
def hasM {K V : Type} (eq : K → K → Bool) (k : K) : List (K × V) → Bool
  | [] => false
  | e :: r => pickB (eq k e.1) true (hasM eq k r)
def setM {K V : Type} (eq : K → K → Bool) (k : K) (v : V) : List (K × V) → List (K × V)
  | [] => [(k, v)]
  | e :: r => if eq k e.1 = true then (k, v) :: r else e :: setM eq k v r
@[simp] theorem kI_ren (σ : Nat → Nat) (k : IntKind) (x : Int) : (kI k x).ren σ = kI k x := rfl
@[simp] theorem kS_ren (σ : Nat → Nat) (x : ByteArray) : (kS x).ren σ = kS x := rfl
@[simp] theorem mapo_nil_ren (σ : Nat → Nat) : (AObj.mapo []).ren σ = .mapo [] := rfl
@[simp] theorem hasV_nil (k : Value) : hasV k [] = some false := rfl
@[simp] theorem getV_nil (k : Value) (z : AV) : getV k z [] = z := rfl
@[simp] theorem setV_nil (k : Value) (v : AV) : setV k v [] = [(.lit k, v)] := rfl
@[simp] theorem delV_nil (k : Value) : delV k [] = [] := rfl
@[simp] theorem hasM_nil {K V : Type} (eq : K → K → Bool) (k : K) : hasM eq k ([] : List (K × V)) = false := rfl
@[simp] theorem setM_nil {K V : Type} (eq : K → K → Bool) (k : K) (v : V) : setM eq k v [] = [(k, v)] := rfl
/-! ### Whether a slice is known to have no spare place -/
/-! ### Rows of numbers in blocks of one's own -/
/-! ### Rows of an array -/
end Go.Ab
end

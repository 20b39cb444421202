import Derived.Test.YtpamnignoocogaaGreatDoorAb6
namespace Go.Ab
open Classical in
noncomputable def need {α : Type} (p : Prop) (x : Option α) : Option α := if p then x else none
theorem Lb {α : Type} {p : Prop} {x : Option α} {r : α} (h : need p x = some r) : p ∧ x = some r := by
 unfold need at h;split at h
 ·rename_i hp; exact ⟨hp, h⟩
 ·cases h
theorem Ld {α β : Type} {x : Option α} {k : α → Option β} {r : β} (h : x.bind k = some r) : ∃ v, x = some v ∧ k v = some r := by
 cases x with
 | none => cases h
 | some v => exact ⟨v, rfl, h⟩
theorem cond_t {α : Type} {b : Bool} {x y : α} {z : α} (hb : b = true) (h : (bif b then x else y) = z) : x = z := by subst hb; exact h
theorem cond_f {α : Type} {b : Bool} {x y : α} {z : α} (hb : b = false) (h : (bif b then x else y) = z) : y = z := by subst hb; exact h
theorem La {α : Type} {a b : α} (h : some a = some b) : b = a := (Option.some.inj h).symm
inductive Fl (S T : Type) where
 | go (s : S)
 | out (t : T)
def iterF {S T : Type} (body : S → Option (Fl S T)) : Nat → S → Option T
 | 0, _ => none
 | n + 1, s => match body s with
   | some (.go s') => iterF body n s'
   | some (.out t) => some t
   | none => none
theorem iterF_mono {S T : Type} {body : S → Option (Fl S T)} : ∀ {n m : Nat} {s : S} {t : T}, n ≤ m → iterF body n s = some t → iterF body m s = some t
 | 0, _, _, _, _, h => by cases h
 | n + 1, 0, _, _, hm, _ => absurd hm (by omega)
 | n + 1, m + 1, s, t, hm, h => by
   unfold iterF at h ⊢;split at h
   ·exact iterF_mono (by omega) h
   ·exact h
   ·cases h
open Classical in
noncomputable def loopF {S T : Type} (body : S → Option (Fl S T)) (s : S) : Option T :=
 if h : ∃ t n, iterF body n s = some t then some h.choose else none
theorem loopF_iff {S T : Type} {body : S → Option (Fl S T)} {s : S} {t : T} : loopF body s = some t ↔ ∃ n, iterF body n s = some t := by
 unfold loopF;constructor
 ·intro h;split at h
  ·rename_i hex;cases h;exact hex.choose_spec
  ·cases h
 ·rintro ⟨n, hn⟩;have hex : ∃ t n, iterF body n s = some t := ⟨t, n, hn⟩;rw [dif_pos hex];obtain ⟨m, hm⟩ := hex.choose_spec;have h1 := iterF_mono (Nat.le_max_left n m) hn;have h2 := iterF_mono (Nat.le_max_right n m) hm;rw [h1] at h2;exact h2.symm
theorem loopF_eq {S T : Type} (body : S → Option (Fl S T)) (s : S) : loopF body s = match body s with
  | some (.go s') => loopF body s'
  | some (.out t) => some t
  | none => none := by
 apply Option.ext;intro t;rw [loopF_iff];constructor
 ·rintro ⟨n, hn⟩;cases n with
  | zero => cases hn
  | succ n =>
    unfold iterF at hn;split at hn
    ·exact loopF_iff.2 ⟨n, hn⟩
    ·exact hn
    ·cases hn
 ·intro h;split at h
  ·rename_i s' hb;obtain ⟨n, hn⟩ := loopF_iff.1 h;exact ⟨n + 1, by unfold iterF; rw [hb]; exact hn⟩
  ·rename_i t' hb;exact ⟨1, by unfold iterF; rw [hb]; exact h⟩
  ·cases h
theorem loopF_ends {S T : Type} {body : S → Option (Fl S T)} (I : S → Prop) (Q : T → Prop) (μ : S → Nat)
  (h : ∀ s, I s → ∃ f, body s = some f ∧ match f with | .go s' => I s' ∧ μ s' < μ s | .out t => Q t) : ∀ s, I s → ∃ t, loopF body s = some t ∧ Q t := by
 intro s
 induction hn : μ s using Nat.strongRecOn generalizing s with
 | _ n ih =>
   intro hI;obtain ⟨f, hf, hq⟩ := h s hI;rw [loopF_eq, hf];cases f with
   | go s' =>
     obtain ⟨h1, h2⟩ := hq;exact ih (μ s') (by omega) s' rfl h1
   | out t => exact ⟨t, rfl, hq⟩
section
variable {P : Program} {n B : Nat} {Q : Exit → St → Prop} {σ : St}
def exS (σ' : St) : Exit → St → Prop
 | .normal, σ => σ = σ'
 | _, _ => False
theorem AWp.then {x y : Code} (σ' : St) (h : AWp P n B x (exS σ') σ) (h2 : AWp P n B y Q σ') : AWp P n B (.seq x y) Q σ :=
 AWp.seq (AWp.mono h fun e σ'' q => by
  cases e with
  | normal => have : σ'' = σ' := q; subst this; exact h2
  | _ => exact q.elim)
def See (n B : Nat) (σ σ' : St) : Prop := ∀ g0 g a, At n B g0 g a σ → ∃ g', g'.w = g.w ∧ At n B g0 g' a σ'
def Eps (n B : Nat) (Q : Exit → St → Prop) (σ : St) : Prop := ∀ g0 g a, At n B g0 g a σ → ∃ σ' g', Q .normal σ' ∧ g'.w = g.w ∧ At n B g0 g' a σ'
theorem Eps.done (h : Q .normal σ) : Eps n B Q σ := fun _ g _ at_ => ⟨σ, g, h, rfl, at_⟩
theorem AWp.thenA {x y : Code} {A : Env} {M : List AObj} (A2 : Env) (h : AWp P n B x (exS ⟨A2, M⟩) ⟨A, M⟩) (h2 : AWp P n B y Q ⟨A2, M⟩) : AWp P n B (.seq x y) Q ⟨A, M⟩ := AWp.then ⟨A2, M⟩ h h2
theorem AWp.last {x : Code} (σ' : St) (h : AWp P n B x (exS σ') σ) (h2 : Q .normal σ') : AWp P n B x Q σ :=
 AWp.mono h fun e σ'' q => by
  cases e with
  | normal => have : σ'' = σ' := q; subst this; exact h2
  | _ => exact q.elim
theorem rr {α β : Type} {a : α} {b : β} : a = a ∧ b = b := ⟨rfl, rfl⟩
theorem AWp.thn {x y : Code} {A : Env} {M : List AObj} (h : AWp P n B x (exS ⟨A, M⟩) σ) (h2 : AWp P n B y Q ⟨A, M⟩) : AWp P n B (.seq x y) Q σ := AWp.then ⟨A, M⟩ h h2
theorem AWp.lst {x : Code} {A : Env} {M : List AObj} (h : AWp P n B x (exS ⟨A, M⟩) σ) (h2 : Q .normal ⟨A, M⟩) : AWp P n B x Q σ := AWp.last ⟨A, M⟩ h h2
theorem AWp.cnd {c : Operand} {x y : Code} {b : Bool} {α : Type} {u v z : α} (hr : (bif b then u else v) = z) (hc : evX σ.A [] c = some (.lit (.bool b))) (ht : b = true → u = z → AWp P n B x Q σ) (hf : b = false → v = z → AWp P n B y Q σ) : AWp P n B (.cond c x y) Q σ :=
 AWp.cond hc (fun h => ht h (cond_t h hr)) (fun h => hf h (cond_f h hr))
def regE (keep dead : List Nat) (ops : List Oper) (σ σ' : St) : Option (List Rec × Env × List AObj) → Prop
 | some (recs, A1, M1) => oblsR recs ∧ keepE A1 keep (without (dstL ops ++ dead) σ.A) = σ'.A ∧ M1 = σ'.M
 | none => False
def regF (ty : TyTab) (Γ : Gam) (ps : List (Nat × Nat)) (info : List (Bool × List Nat)) (keep dead : List Nat) (ops : List Oper) (σ σ' : St) : Option (List Rec × Env × List AObj) → Prop
 | some (recs, A1, M1) => oblsR recs ∧ recs.map infoOf = info ∧ crossAll ty Γ ops recs σ.M ps ∧ keepE A1 keep (without (dstL ops ++ dead) σ.A) = σ'.A ∧ M1 = σ'.M
 | none => False
theorem AWp.drop {c : Code} (dead : List Nat) {A : Env} {M : List AObj} (h : AWp P n B c Q ⟨without dead A, M⟩) : AWp P n B c Q ⟨A, M⟩ := by
 intro g0 g a at_;exact h g0 g a ⟨at_.base, at_.ax, at_.keep, at_.mem, at_.sim, without_rel at_.env, at_.size, at_.defers⟩
variable {ty : TyTab} {Γ : Gam}
theorem AWp.reg (hty : TyOk P ty) (hΓ : GamOk P Γ) {id : Nat} {ops : Array Oper} (keep dead : List Nat) {σ' : St} (hd : dstsOk ops n ops.toList [] = true) (hn : noTags σ.A = true)
  (h : regE keep dead ops.toList σ σ' (runR ty Γ ops ops.toList σ.A σ.M)) : AWp P n B (.region id ops false) (exS σ') σ := by
 obtain ⟨A, M⟩ := σ;obtain ⟨A', M'⟩ := σ';unfold regE at h;split at h
 ·rename_i recs A1 M1 hrun;obtain ⟨h1, h2, h3⟩ := h;simp only at h2 h3;subst h3;subst h2;intro g0 g a at_;refine wp_region_list (run_text hty hΓ n ops.toList hrun h1 hd (fun e he τ hτ => ?_) at_.size at_.mem at_.sim at_.env fun a' g' q1 q2 q3 hx q4 q5 q6 => ?_)
  ·have := List.all_eq_true.1 hn e he;simp [hτ] at this
  ·refine ⟨_, g', rfl, rfl, at_.base, hx.trans at_.ax, at_.keep.trans q5, q3, q4, keepE_rel q6 ?_ keep, q1, by rw [q2]; exact at_.defers⟩;rw [without_app];refine without_rel fun t tag av he => ?_;rw [without_ent] at he;split at he
   ·cases he
   ·rename_i hc;refine q6 t tag av ?_;rw [run_ent hrun t (by simpa using hc)]; exact he
 ·exact h.elim
theorem AWp.regD (hm : P.follows .mixedOrders = true) (hty : TyOk P ty) (hΓ : GamOk P Γ) {id : Nat} {ops : Array Oper} (keep dead : List Nat) (ps : List (Nat × Nat)) (info : List (Bool × List Nat)) {σ' : St} (hd : drawB n ps ops.toList info = true) (hn : noTags σ.A = true)
  (h : regF ty Γ ps info keep dead ops.toList σ σ' (runR ty Γ ops ops.toList σ.A σ.M)) : AWp P n B (.region id ops true) (exS σ') σ := by
 obtain ⟨A, M⟩ := σ;obtain ⟨A', M'⟩ := σ';unfold regF at h;split at h
 ·rename_i recs A1 M1 hrun;obtain ⟨h1, hi, hc, h2, h3⟩ := h;simp only at h2 h3 hc;subst h3;subst h2;refine AWp.regionD' hm hty hΓ keep dead ps hrun (by rw [hi]; exact hd) hc hn h1 rfl
 ·exact h.elim
def flC {V X : Type} (f : Fl V X) (k : V → Option X) : Option X :=
 match f with
 | .go v => k v
 | .out x => some x
def optC {α β : Type} (o : Option α) (x : β) (f : α → β) : β :=
 match o with
 | none => x
 | some a => f a
def meetQ {V X Gh : Type} (B : Nat) (E : V → Gh → St) (Qr : X → St → Prop) (f : Fl V X) (e : Exit) (σ' : St) : Prop :=
 match f with
 | .go v => e = .normal ∧ ∃ γ m, Conv B m σ' (E v γ)
 | .out x => e = .ret ∧ Qr x σ'
def roundQ {S V X Gh Ga : Type} (B : Nat) (E : S → Gh → St) (EA : V → Ga → St) (id : Nat) (Qr : X → St → Prop) (f : Fl S (Fl V X)) (e : Exit) (σ' : St) : Prop :=
 match f with
 | .go s => e = .normal ∧ ∃ γ m, Conv B m σ' (E s γ)
 | .out (.go v) => e = .exit id ∧ ∃ γ m, Conv B m σ' (EA v γ)
 | .out (.out x) => e = .ret ∧ Qr x σ'
def QRm {V X : Type} (Qr : X → St → Prop) (f : Fl V X) (σ : St) : Prop := ∃ x, f = .out x ∧ Qr x σ
def QRr {S V X : Type} (Qr : X → St → Prop) (f : Fl S (Fl V X)) (σ : St) : Prop := ∃ x, f = .out (.out x) ∧ Qr x σ
theorem meet_go {V X Gh : Type} {E : V → Gh → St} {Qr : X → St → Prop} {v : V} (γ : Gh) (m : Nat) (h : Conv B m σ (E v γ)) : meetQ B E Qr (.go v) .normal σ := ⟨rfl, γ, m, h⟩
theorem meet_ret {V X Gh : Type} {E : V → Gh → St} {Qr : X → St → Prop} {x : X} (h : Qr x σ) : meetQ B E Qr (.out x) .ret σ := ⟨rfl, h⟩
theorem Lo {S V X Gh Ga : Type} {E : S → Gh → St} {EA : V → Ga → St} {id : Nat} {Qr : X → St → Prop} {s : S} (γ : Gh) (m : Nat) (h : Conv B m σ (E s γ)) : roundQ B E EA id Qr (.go s) .normal σ := ⟨rfl, γ, m, h⟩
theorem Lr {S V X Gh Ga : Type} {E : S → Gh → St} {EA : V → Ga → St} {id : Nat} {Qr : X → St → Prop} {v : V} (γ : Ga) (m : Nat) (h : Conv B m σ (EA v γ)) : roundQ B E EA id Qr (.out (.go v)) (.exit id) σ := ⟨rfl, γ, m, h⟩
theorem round_ret {S V X Gh Ga : Type} {E : S → Gh → St} {EA : V → Ga → St} {id : Nat} {Qr : X → St → Prop} {x : X} (h : Qr x σ) : roundQ B E EA id Qr (.out (.out x)) .ret σ := ⟨rfl, h⟩
theorem QRm_ret {V X Gh : Type} {E : V → Gh → St} {Qr : X → St → Prop} {f : Fl V X} (h : QRm Qr f σ) : meetQ B E Qr f .ret σ := by obtain ⟨x, rfl, h⟩ := h; exact ⟨rfl, h⟩
theorem QRr_ret {S V X Gh Ga : Type} {E : S → Gh → St} {EA : V → Ga → St} {id : Nat} {Qr : X → St → Prop} {f : Fl S (Fl V X)} (h : QRr Qr f σ) : roundQ B E EA id Qr f .ret σ := by obtain ⟨x, rfl, h⟩ := h; exact ⟨rfl, h⟩
theorem AWp.loopF {S T Gh : Type} {body : S → Option (Fl S T)} (E : S → Gh → St) {s0 : S} {t : T} (h : Go.Ab.loopF body s0 = some t) (γ0 : Gh) (m : Nat) (hc : Conv B m σ (E s0 γ0)) {c : Code} (Qx : T → Exit → St → Prop)
  (round : ∀ s f γ, body s = some f → AWp P n B c (thenS (fun σ' => ∃ s' γ' m', f = .go s' ∧ Conv B m' σ' (E s' γ')) (fun e σ' => ∃ t', f = .out t' ∧ Qx t' e σ')) (E s γ))
  (hq : ∀ e σ', Qx t e σ' → Q e σ') : AWp P n B (.loop c) Q σ := by
 obtain ⟨k, hk⟩ := loopF_iff.1 h;refine AWp.loop' (fun k σ => ∃ s γ, σ = E s γ ∧ iterF body k s = some t) k m (E s0 γ0) hc ⟨s0, γ0, rfl, hk⟩ ?_;rintro k σ ⟨s, γ, rfl, hk⟩;cases k with
 | zero => cases hk
 | succ k =>
   unfold iterF at hk;split at hk
   ·rename_i s' hb;refine AWp.mono (round s _ γ hb) fun e σ' q => ?_;cases e with
    | normal =>
      obtain ⟨s2, γ', m', h1, h2⟩ := q;cases h1;exact ⟨k, m', _, by omega, h2, s', γ', rfl, hk⟩
    | _ => obtain ⟨t', h1, _⟩ := q; cases h1
   ·rename_i t' hb;cases hk;refine AWp.mono (round s _ γ hb) fun e σ' q => ?_;cases e with
    | normal => obtain ⟨_, _, _, h1, _⟩ := q; cases h1
    | _ => obtain ⟨t', h1, h2⟩ := q; cases h1; exact hq _ _ h2
   ·cases hk
theorem AWp.meetF {V X Gh : Type} {x y : Code} {sub : Option (Fl V X)} {k : V → Option X} {r : X} (EA : V → Gh → St) (Qr : X → St → Prop) (h : (sub.bind fun f => flC f k) = some r)
  (hx : ∀ f, sub = some f → AWp P n B x (meetQ B EA Qr f) σ) (hy : ∀ v γ, k v = some r → AWp P n B y Q (EA v γ)) (hr : ∀ σ', Qr r σ' → Q .ret σ') : AWp P n B (.seq x y) Q σ := by
 obtain ⟨f, hf, hk⟩ := Ld h;refine AWp.seq (AWp.mono (hx f hf) fun e σ' q => ?_);cases f with
 | go v =>
   obtain ⟨rfl, γ, m, hc⟩ := q;exact AWp.conv hc (hy v γ hk)
 | out z =>
   obtain ⟨rfl, q⟩ := q;cases hk;exact hr σ' q
theorem AWp.loopE {S V X Gh Ga : Type} {id : Nat} {c : Code} {body : S → Option (Fl S (Fl V X))} {s0 : S} {k : V → Option X} {r : X} (E : S → Gh → St) (EA : V → Ga → St) (Qr : X → St → Prop) (h : ((Go.Ab.loopF body s0).bind fun f => flC f k) = some r)
  (γ0 : Gh) (m : Nat) (hc : Conv B m σ (E s0 γ0)) (round : ∀ s f γ, body s = some f → AWp P n B c (roundQ B E EA id Qr f) (E s γ))
  (hy : ∀ v γ σ' m', k v = some r → Conv B m' σ' (EA v γ) → Q .normal σ') (hr : ∀ σ', Qr r σ' → Q .ret σ') : AWp P n B (.block id (.loop c)) Q σ := by
 obtain ⟨t, ht, hk⟩ := Ld h
 refine AWp.block (AWp.loopF E ht γ0 m hc (fun t e σ' => match t with
  | .go v => e = .exit id ∧ ∃ γ m, Conv B m σ' (EA v γ)
  | .out x => e = .ret ∧ Qr x σ') (fun s f γ hb => AWp.mono (round s f γ hb) fun e σ' q => ?_) fun e σ' q => ?_)
 ·cases f with
  | go s' =>
    obtain ⟨rfl, γ', m', q⟩ := q;exact ⟨s', γ', m', rfl, q⟩
  | out t =>
    cases t with
    | go v =>
      obtain ⟨rfl, q⟩ := q;exact ⟨_, rfl, rfl, q⟩
    | out x =>
      obtain ⟨rfl, q⟩ := q;exact ⟨_, rfl, rfl, q⟩
 ·cases t with
  | go v =>
    obtain ⟨rfl, γ, m', q⟩ := q;simp only [blockS, if_true];exact hy v γ σ' m' hk q
  | out x =>
    obtain ⟨rfl, q⟩ := q;cases hk;exact hr σ' q
theorem AWp.equip {c : Code} {A : Env} {M : List AObj} (t s : Nat) {els : List (List AV)} (h : ent A t = some (none, .sl els .full)) (hs : ∀ q ∈ els, q.length = s)
  (h2 : AWp P n B c Q ⟨⟨t, none, .sl els (.own M.length 0 s)⟩ :: A, M ++ [.room 0]⟩) : AWp P n B c Q ⟨A, M⟩ := by
 intro g0 g a at_;have hx : R g (.sl els .full) (a.tmps.getD t undef) := at_.env t none _ h;obtain ⟨r, hr, hx'⟩ := hx.equip s hs;have k := keep_equip (g := g) (ep := 0) hr;have hM : g.M = M := at_.mem;refine h2 g0 (g.equip r) a ⟨at_.base, at_.ax, at_.keep.trans k, by simp [G.equip, hM], sim_equip hr at_.sim, fun u tag av he => ?_, at_.size, at_.defers⟩;simp only [ent] at he;split at he
 ·rename_i hu;cases he;subst hu;rw [← hM]; exact hx'
 ·exact EnvRel.keep k at_.env u tag av he
theorem AWp.equipC {c : Code} {A : Env} {M : List AObj} (i j s : Nat) {els : List (List AV)} {cells : List AV} (hM : M[i]? = some (.blk cells)) (hc : cells[j]? = some (.sl els .full)) (hs : ∀ q ∈ els, q.length = s)
  (h2 : AWp P n B c Q ⟨A, (M ++ [AObj.room 0]).set i (AObj.blk (cells.set j (.sl els (.own M.length 0 s))))⟩) : AWp P n B c Q ⟨A, M⟩ := by
 intro g0 g a at_;have hgM : g.M = M := at_.mem;have hi : g.M[i]? = some (.blk cells) := by rw [hgM]; exact hM
 have hj : j < cells.length := by
  rcases Nat.lt_or_ge j cells.length with h | h
  ·exact h
  ·rw [List.getElem?_eq_none h] at hc; cases hc
 have hcj : cells[j] = .sl els .full := by
  rw [List.getElem?_eq_getElem hj] at hc;exact Option.some.inj hc
 obtain ⟨xs, T, h1, _, h3, _⟩ := at_.sim.blk i cells hi
 have hil : i < g.M.length := by
  rcases Nat.lt_or_ge i g.M.length with h | h
  ·exact h
  ·rw [List.getElem?_eq_none h] at hi; cases hi
 have hx := h3 j hj;rw [hcj] at hx;obtain ⟨r, hr, hx'⟩ := hx.equip s hs;have k := keep_equip (g := g) (ep := 0) hr;have s1 := sim_equip (ep := 0) hr at_.sim
 have hi1 : (g.equip r).M[i]? = some (.blk cells) := by
  show (g.M ++ [AObj.room 0])[i]? = _;rw [List.getElem?_append_left hil]; exact hi
 let cells' : List AV := cells.set j (.sl els (.own g.M.length 0 s))
 have k2 : Keep (g.equip r) ((g.equip r).put i (.blk cells') ((g.equip r).ρ i) (g.equip r).w) :=
  keep_put (stored_within hi1) (fun _ h => by cases h) (Nat.le_refl _) (fun _ _ hx _ => hx) (fun _ _ _ => rfl) ⟨rfl, rfl⟩ (fun _ _ _ => ⟨rfl, rfl⟩) (fun _ _ _ => rfl)
 have s2 : Sim ((g.equip r).put i (.blk cells') ((g.equip r).ρ i) (g.equip r).w) := by
  refine sim_put (stored_within hi1) s1 k2 (fun _ _ _ _ _ _ => rfl) (fun j e _ ho n hn => s1.room j e ho n hn) (fun a ha => s1.inb a ha) (fun a ha => s1.inb a (Lk hi1 ha)) (fun cs hcs => ?_) (fun _ _ h => by cases h) (fun _ h => by cases h);cases hcs;obtain ⟨ys, T', q1, q2, q3, q4⟩ := s1.blk i cells hi1;have e1 : (g.equip r).β i = g.β i := rfl;rw [e1] at q1;have e2 : (g.equip r).w = g.w := rfl;rw [e2, h1] at q1;cases q1;refine ⟨xs, T, h1, by simp [cells', q2], fun m hm => ?_, fun m hm => q4 m (by simpa [cells'] using hm)⟩;by_cases hmj : m = j
  ·subst hmj;have : cells'[m] = .sl els (.own g.M.length 0 s) := by simp [cells']
   rw [this];exact hx'.keep k2
  ·have : cells'[m] = cells[m]'(by simpa [cells'] using hm) := by simp [cells', Ne.symm hmj]
   rw [this];exact (q3 m (by simpa [cells'] using hm)).keep k2
 refine h2 g0 ((g.equip r).put i (.blk cells') ((g.equip r).ρ i) (g.equip r).w) a ⟨at_.base, at_.ax, (at_.keep.trans k).trans k2, ?_, s2, EnvRel.keep k2 (EnvRel.keep k at_.env), at_.size, at_.defers⟩;show (g.M ++ [AObj.room 0]).set i (.blk cells') = _;simp only [cells', hgM]
theorem Le {rs : List ResultVar} {out : Out} {M : List AObj} (h : finK out M σ.M (resA ty σ.A σ.M rs)) : retPost ty rs out M .ret σ := h
theorem fin_norm {rs : List ResultVar} {out : Out} {M : List AObj} (h : finK out M σ.M (resA ty σ.A σ.M rs)) : retPost ty rs out M .normal σ := h
theorem callOk_of {f : FuncId} {l : List AV} {M : List AObj} {av : AV} {M' : Option (List AObj)} {o : Prop} (h : o → CallOk P f l M { av := av, M := M' }) : CallOk P f l M { av := av, M := M', obl := o } :=
 fun g vs hM sm hr ho => h ho g vs hM sm hr trivial
end
end Go.Ab

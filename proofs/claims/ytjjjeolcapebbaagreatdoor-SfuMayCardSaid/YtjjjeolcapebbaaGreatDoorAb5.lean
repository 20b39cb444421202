/- What a function's text asks, as one proposition that simp reckons out. No condition: over any program whose table of types is given. -/
import Derived.Test.YtjjjeolcapebbaaGreatDoorAb4
namespace Go.Ab

def regK (ops : List Oper) (keep : List Nat) (K : St → Prop) (σ : St) : Option (List Rec × Env × List AObj) → Prop
  | some (recs, A1, M1) => oblsR recs ∧ K ⟨keepE A1 keep (without (dstL ops) σ.A), M1⟩
  | none => False

def regD (ty : TyTab) (Γ : Gam) (n : Nat) (ps : List (Nat × Nat)) (ops : List Oper) (keep : List Nat) (K : St → Prop) (σ : St) : Option (List Rec × Env × List AObj) → Prop
  | some (recs, A1, M1) => oblsR recs ∧ drawB n ps ops (recs.map infoOf) = true ∧ crossAll ty Γ ops recs σ.M ps ∧ K ⟨keepE A1 keep (without (dstL ops) σ.A), M1⟩
  | none => False

def condK (T F : Prop) : Option AV → Prop
  | some (.lit (.bool b)) => (b = true → T) ∧ (b = false → F)
  | _ => False

abbrev Sp := List AV → List AObj → Option Out
/-- The contracts that a proof leans on. -/
def gamL : List (FuncId × Sp) → Gam
  | [], _, _, _ => none
  | (g, s) :: r, f, l, M => if f = g then s l M else gamL r f l M

def SpecOk (P : Program) (f : FuncId) (s : Sp) : Prop := ∀ l M out, s l M = some out → CallOk P f l M out

theorem gamL_nil {P : Program} : GamOk P (gamL []) := ⟨fun _ _ _ _ h => by cases h⟩
theorem gamL_cons {P : Program} {f : FuncId} {s : Sp} {r : List (FuncId × Sp)} (h : SpecOk P f s) (hr : GamOk P (gamL r)) : GamOk P (gamL ((f, s) :: r)) :=
  ⟨fun f' l M out ho => by
    unfold gamL at ho
    split at ho
    · rename_i he; subst he; exact h l M out ho
    · exact hr.h f' l M out ho⟩

/-- kp: which places of a region are read behind it; cp: the pairs of a region that draws that must be looked at twice. -/
def vc (P : Program) (ty : TyTab) (Γ : Gam) (kp : Nat → List Nat) (cp : Nat → List (Nat × Nat)) (n B : Nat) : Code → (Exit → St → Prop) → St → Prop
  | .skip, Q, σ => Q .normal σ
  | .region id ops false, Q, σ => noTags σ.A = true ∧ dstsOk ops n ops.toList [] = true ∧ regK ops.toList (kp id) (Q .normal) σ (runR ty Γ ops ops.toList σ.A σ.M)
  | .region id ops true, Q, σ => noTags σ.A = true ∧ regD ty Γ n (cp id) ops.toList (kp id) (Q .normal) σ (runR ty Γ ops ops.toList σ.A σ.M)
  | .seq x y, Q, σ => vc P ty Γ kp cp n B x (thenS (vc P ty Γ kp cp n B y Q) Q) σ
  | .cond c x y, Q, σ => condK (vc P ty Γ kp cp n B x Q σ) (vc P ty Γ kp cp n B y Q σ) (evX σ.A [] c)
  | .block id c, Q, σ => vc P ty Γ kp cp n B c (blockS id Q) σ
  | .exit id, Q, σ => Q (.exit id) σ
  | .ret, Q, σ => Q .ret σ
  | .loop c, Q, σ => AWp P n B (.loop c) Q σ
  | _, _, _ => False

theorem vc_sound {P : Program} {ty : TyTab} {Γ : Gam} (hm : P.follows .mixedOrders = true) (hty : TyOk P ty) (hΓ : GamOk P Γ) {kp : Nat → List Nat} {cp : Nat → List (Nat × Nat)} {n B : Nat} : ∀ {c : Code} {Q : Exit → St → Prop} {σ : St}, vc P ty Γ kp cp n B c Q σ → AWp P n B c Q σ
  | .skip, Q, σ, h => AWp.skip h
  | .region id ops false, Q, σ, h => by
    obtain ⟨h1, h2, h3⟩ := h
    unfold regK at h3
    split at h3
    · rename_i recs A1 M1 hrun
      exact AWp.region hty hΓ (kp id) hrun h2 h1 h3.1 h3.2
    · exact h3.elim
  | .region id ops true, Q, σ, h => by
    obtain ⟨h1, h3⟩ := h
    unfold regD at h3
    split at h3
    · rename_i recs A1 M1 hrun
      obtain ⟨q1, q2, q3, q4⟩ := h3
      exact AWp.regionD hm hty hΓ (kp id) (cp id) hrun q2 q3 h1 q1 q4
    · exact h3.elim
  | .seq x y, Q, σ, h => by
    refine AWp.seq (AWp.mono (vc_sound hm hty hΓ (c := x) h) fun e σ' hq => ?_)
    cases e with
    | normal => exact vc_sound hm hty hΓ (c := y) hq
    | _ => exact hq
  | .cond c x y, Q, σ, h => by
    unfold vc condK at h
    split at h
    · rename_i b hc
      exact AWp.cond hc (fun hb => vc_sound hm hty hΓ (h.1 hb)) (fun hb => vc_sound hm hty hΓ (h.2 hb))
    · exact h.elim
  | .block id c, Q, σ, h => AWp.block (vc_sound hm hty hΓ (c := c) h)
  | .exit id, Q, σ, h => AWp.exit h
  | .ret, Q, σ, h => AWp.ret h
  | .loop c, Q, σ, h => h
  | .rangeFunc .., _, _, h => h.elim
  | .scope _, _, _, h => h.elim
  | .label _, _, _, h => h.elim
  | .goto _, _, _, h => h.elim
  | .refuse _, _, _, h => h.elim

theorem call_of_vc {P : Program} {ty : TyTab} {Γ : Gam} (hm : P.follows .mixedOrders = true) (hty : TyOk P ty) (hΓ : GamOk P Γ) (kp : Nat → List Nat) (cp : Nat → List (Nat × Nat)) {f : FuncId} {fn : Func} {c : Code} (hf : P.funcs[f]? = some fn) (hb : fn.body = some c)
    (hname : (fn.name == "runtime.NumGoroutine") = false) {l : List AV} {M : List AObj} {out : Out} {rs : List ResultVar} (hrs : fn.results.toList = rs) {n : Nat} (hn : fn.ntmps = n) (hl : l.length ≤ n)
    (h : out.obl → belM M.length M → belL M.length l → vc P ty Γ kp cp n M.length c (retPost ty rs out M) ⟨argsE 0 l, M⟩) : CallOk P f l M out := by
  subst hn
  exact call_of_body hty hf hb hname hrs hl fun h1 h2 h3 => vc_sound hm hty hΓ (h h1 h2 (belL_iff.2 h3))

/-- A function that answers nil for nil, and else a slice of its own, as 'slices.Clone'. -/
theorem callOk_nil {P : Program} {f : FuncId} {els : List (List AV)} {tok : Tok} {M : List AObj} {s : Nat} {o : Prop}
    (h0 : CallOk P f [.lit (.slice none 0 0)] M { av := .sl [] .full })
    (h1 : CallOk P f [.sl els .nn] M { av := .sl els (.own M.length 1 s), M := some (M ++ [.room 1]), obl := o }) :
    CallOk P f [.sl els tok] M { av := .sl els (.own M.length 1 s), M := some (M ++ [.room 1]), obl := o } := by
  intro g vs hM sm hr ho
  cases hr with | cons hv hr => cases hr with | nil =>
  rcases hv.nil_or with ⟨rfl, rfl⟩ | hv
  · obtain ⟨c1, c2⟩ := h0 g [_] hM sm (.cons (.lit _) .nil) trivial
    refine ⟨c1, c2.mono fun e w' => ?_⟩
    rintro ⟨v, rfl, β, ρ, q1, q2, q3⟩
    refine ⟨v, rfl, ?_⟩
    subst hM
    simp only [G.out, Option.getD_none] at q1 q2 q3
    cases q2 with
    | nil =>
      refine ⟨β, upd ρ g.M.length ⟨0, 0, 0, nobs⟩, ?_, ?_, ?_⟩
      · exact sim_equip (r := ⟨0, 0, 0, nobs⟩) (ep := 1) rfl q1
      · exact .nil _ ⟨by simp [G.out], fun e he => by
          simp [G.out] at he
          subst he
          exact ⟨Nat.le_refl _, fun _ => by simp [G.out]⟩⟩
      · exact q3.trans (keep_equip (r := ⟨0, 0, 0, nobs⟩) (ep := 1) rfl)
    | sl _ _ b off s' cap xs hs k1 k2 k3 k4 ht hc =>
      have h0 : cap = 0 := ht
      subst h0
      refine ⟨β, upd ρ g.M.length ⟨b, off, 0, nobs⟩, ?_, ?_, ?_⟩
      · exact sim_equip (r := ⟨b, off, 0, nobs⟩) (ep := 1) rfl q1
      · refine .sl [] _ b off s 0 xs (by simp) (by simp) (by simp) (by simp) (by simp) ⟨rfl, by simp [G.out], fun e he => ?_⟩ (Nat.le_refl _)
        simp [G.out] at he
        subst he
        exact ⟨Nat.le_refl _, fun _ => by simp [G.out]⟩
      · exact q3.trans (keep_equip (r := ⟨b, off, 0, nobs⟩) (ep := 1) rfl)
  · exact h1 g [_] hM sm (.cons hv .nil) ho

/-! ### Loops -/
def subE (A : Env) : Env → Prop
  | [] => True
  | e :: r => (match e.tag, ent A e.t with
      | none, some (none, av) => Weak av e.av
      | _, _ => False) ∧ subE A r

theorem subE_sub {A : Env} : ∀ {A' : Env}, subE A A' → EnvSub A A'
  | [], _ => .nil
  | ⟨t, tag, av⟩ :: r, h => by
    obtain ⟨h1, h2⟩ := h
    split at h1
    · rename_i av' htag he
      simp only at htag he
      subst htag
      exact .cons he h1 (subE_sub h2)
    · exact h1.elim

/-- One state says what another one says, and perhaps more. -/
def Conv (B m : Nat) (σ σ' : St) : Prop := B ≤ m ∧ m ≤ σ.M.length ∧ subE σ.A σ'.A ∧ belE m σ'.A ∧ WMem (σ.M.take m) σ'.M ∧ belM m σ'.M

theorem EnvRel.wmem {g : G} {M' : List AObj} (hm : WMem g.M M') {A : Env} {tmps : Array Value} (h : EnvRel g A tmps) : EnvRel ⟨M', g.β, g.ρ, g.w, g.X⟩ A tmps := by
  intro t tag av he
  have := h t tag av he
  cases tag with
  | none => exact R.wmem hm this
  | some τ => exact ⟨fun hy => (this.1 hy).wmem hm, this.2⟩

theorem Conv.at {n B m : Nat} {σ σ' : St} (h : Conv B m σ σ') {g0 g : G} {a : Act} (at_ : At n B g0 g a σ) : ∃ g', g'.w = g.w ∧ At n B g0 g' a σ' := by
  obtain ⟨h1, h2, h3, h4, h5, h6⟩ := h
  have hm : m ≤ g.M.length := by rw [at_.mem]; exact h2
  have hlen : σ'.M.length = m := by have := h5.length; rw [← at_.mem, List.length_take] at this; omega
  have hw : WMem g.M (σ'.M ++ g.M.drop m) := by
    have h7 := h5.append' (.refl (g.M.drop m))
    rwa [← at_.mem, List.take_append_drop] at h7
  have hl3 : m ≤ (σ'.M ++ g.M.drop m).length := by simp; omega
  have ht : (σ'.M ++ g.M.drop m).take m = σ'.M := by rw [← hlen]; exact List.take_left
  have e1 := Sim.cut hl3 (Sim.wmem hw at_.sim) (by simp only [ht]; exact h6)
  have e2 := Keep.cut' (Keep.wmem hw at_.keep) (by rw [at_.base]; exact h1) hl3
  have e3 := EnvRel.cut hl3 (EnvRel.wmem hw ((subE_sub h3).rel at_.env)) h4
  simp only [G.cut, ht] at e1 e2 e3
  exact ⟨⟨σ'.M, g.β, g.ρ, g.w, g.X⟩, rfl, at_.base, at_.ax, e2, rfl, e1, e3, at_.size, at_.defers⟩

theorem AWp.loop' {P : Program} {n B : Nat} {Q : Exit → St → Prop} {σ : St} {c : Code} (I : Nat → St → Prop) (k m : Nat) (σ0 : St) (hc : Conv B m σ σ0) (h0 : I k σ0)
    (round : ∀ k σ, I k σ → AWp P n B c (thenS (fun σ' => ∃ k' m σ'', k' < k ∧ Conv B m σ' σ'' ∧ I k' σ'') Q) σ) : AWp P n B (.loop c) Q σ := by
  intro g0 g a at_
  obtain ⟨g1, hw, at1⟩ := hc.at at_
  rw [← hw]
  refine wp_loop_ghost (fun k a w => ∃ σ g, I k σ ∧ g.w = w ∧ At n B g0 g a σ) k ⟨σ0, g1, h0, rfl, at1⟩ ?_
  rintro k a w ⟨σ, g, hI, rfl, at_⟩
  refine wp_mono (round k σ hI g0 g a at_) fun e a' w' ⟨σ', g', q, hw, at'⟩ => ?_
  cases e with
  | normal =>
    obtain ⟨k', m, σ'', hk, hcv, hI'⟩ := q
    obtain ⟨g2, hw2, at2⟩ := hcv.at at'
    exact ⟨k', hk, σ'', g2, hI', hw2.trans hw, at2⟩
  | exit id => exact ⟨σ', g', q, hw, at'⟩
  | goto l => exact ⟨σ', g', q, hw, at'⟩
  | ret => exact ⟨σ', g', q, hw, at'⟩
  | panic ch => exact ⟨σ', g', q, hw, at'⟩
  | outgrown => exact ⟨σ', g', q, hw, at'⟩

theorem AWp.conv {P : Program} {n B m : Nat} {Q : Exit → St → Prop} {σ σ' : St} {c : Code} (hc : Conv B m σ σ') (h : AWp P n B c Q σ') : AWp P n B c Q σ := by
  intro g0 g a at_
  obtain ⟨g1, hw, at1⟩ := hc.at at_
  rw [← hw]
  exact h g0 g1 a at1

/-- A statement, and the rest: what follows is not looked into meanwhile. -/
theorem AWp.step {P : Program} {n B : Nat} {Q : Exit → St → Prop} {σ : St} {x y : Code} (h : ∀ y' Q', y' = y → Q' = Q → AWp P n B x (thenS (AWp P n B y' Q') Q') σ) : AWp P n B (.seq x y) Q σ := AWp.seq (h y Q rfl rfl)

def cutC : Nat → Code → List Code × Code
  | n + 1, .seq a r => (a :: (cutC n r).1, (cutC n r).2)
  | _, c => ([], c)

def vcl (P : Program) (ty : TyTab) (Γ : Gam) (kp : Nat → List Nat) (cp : Nat → List (Nat × Nat)) (n B : Nat) (K : St → Prop) (Q : Exit → St → Prop) : List Code → St → Prop
  | [], σ => K σ
  | a :: l, σ => vc P ty Γ kp cp n B a (thenS (vcl P ty Γ kp cp n B K Q l) Q) σ

/-- The first j statements at once; what follows is not looked into meanwhile. -/
theorem AWp.steps {P : Program} {ty : TyTab} {Γ : Gam} (hm : P.follows .mixedOrders = true) (hty : TyOk P ty) (hΓ : GamOk P Γ) {kp : Nat → List Nat} {cp : Nat → List (Nat × Nat)} {n B : Nat} {Q : Exit → St → Prop} : ∀ (j : Nat) {c : Code} {σ : St},
    (∀ y' Q', y' = (cutC j c).2 → Q' = Q → vcl P ty Γ kp cp n B (AWp P n B y' Q') Q' (cutC j c).1 σ) → AWp P n B c Q σ := by
  have key : ∀ (j : Nat) (c : Code) (σ : St), vcl P ty Γ kp cp n B (AWp P n B (cutC j c).2 Q) Q (cutC j c).1 σ → AWp P n B c Q σ := by
    intro j
    induction j with
    | zero => intro c σ h; cases c <;> exact h
    | succ j ih =>
      intro c σ h
      cases c with
      | seq a r =>
        refine AWp.seq (AWp.mono (vc_sound hm hty hΓ (c := a) h) fun e σ' hq => ?_)
        cases e with
        | normal => exact ih r σ' hq
        | _ => exact hq
      | _ => exact h
  exact fun j c σ h => key j c σ (h _ _ rfl rfl)

theorem call_of_awp {P : Program} {ty : TyTab} (hty : TyOk P ty) {f : FuncId} {fn : Func} {c : Code} (hf : P.funcs[f]? = some fn) (hb : fn.body = some c)
    (hname : (fn.name == "runtime.NumGoroutine") = false) {l : List AV} {M : List AObj} {out : Out} {rs : List ResultVar} (hrs : fn.results.toList = rs) {n : Nat} (hn : fn.ntmps = n) (hl : l.length ≤ n)
    (h : out.obl → belM M.length M → belL M.length l → AWp P n M.length c (retPost ty rs out M) ⟨argsE 0 l, M⟩) : CallOk P f l M out := by
  subst hn
  exact call_of_body hty hf hb hname hrs hl fun h1 h2 h3 => h h1 h2 (belL_iff.2 h3)

attribute [simp] cutC vcl
attribute [simp] callOut lentA lentL lendA lendB lendO lendP litA litB marked arrK
attribute [simp] lookupSOut mapSetSOut mapDelSOut assertOut subE Conv gamL vc regK regD condK thenS blockS runR recOf tagOf makeMapOut lookupOut sameO zeroO makeOutB makeOutC copyOut mapSetOut mapDelOut mapLenOut zeroAV mTok noToks noTok keyOk evOp evX evXs evPs evO getE ent vis visOf ofConst putE allocOut boxOut loadOut peek TyK.agg TyK.elem AV.cellsOf AV.one AV.var
  nilOut fieldAddrOut fieldOut indexAddrOut indexOut optInt cutTok Tok.isFull sliceOut fillL structPlaces zTok buildOut chunks zeros buildSliceOut extractOut lenOut minmaxOut appendOut rangeOut nextOut makeOut strOut2 runesOut bytesOut convOut convAll
  binOut binOut2 eqT eqFs nilCmpOut isNilS nilIOut isNilI intOut strOut shiftOut isShift unOut builtinOut pickOut ifaceOut splice storeOut argsE noTags dstsOk keepE without dstL oblsR Rec.obl holds retPost finK resA resV infoOf Rec.w crossAll memAt
  belE List.take_of_length_le List.take_append_of_le_length List.drop_of_length_le

@[simp] theorem bel_blk (n : Nat) (l : List AV) : (AObj.blk l).bel n ↔ belL n l := .rfl
@[simp] theorem bel_room (n e : Nat) : (AObj.room e).bel n ↔ True := .rfl
@[simp] theorem bel_dead (n : Nat) : AObj.dead.bel n ↔ True := .rfl
@[simp] theorem bel_lit (n : Nat) (v : Value) : (AV.lit v).bel n ↔ True := .rfl
@[simp] theorem bel_ptr (n i off : Nat) : (AV.ptr i off).bel n ↔ i < n := .rfl
@[simp] theorem bel_sl (n : Nat) (els : List (List AV)) (tok : Tok) : (AV.sl els tok).bel n ↔ belLL n els ∧ tok.bel n := .rfl
@[simp] theorem bel_agg (n : Nat) (cs : List AV) : (AV.agg cs).bel n ↔ belL n cs := .rfl
@[simp] theorem bel_tup (n : Nat) (cs : List AV) : (AV.tup cs).bel n ↔ belL n cs := .rfl
@[simp] theorem belL_nil (n : Nat) : belL n [] ↔ True := .rfl
@[simp] theorem belL_cons (n : Nat) (a : AV) (l : List AV) : belL n (a :: l) ↔ a.bel n ∧ belL n l := .rfl
@[simp] theorem belLL_nil (n : Nat) : belLL n [] ↔ True := .rfl
@[simp] theorem belLL_cons (n : Nat) (a : List AV) (l : List (List AV)) : belLL n (a :: l) ↔ belL n a ∧ belLL n l := .rfl
@[simp] theorem Weak.rfl' (a : AV) : Weak a a := .refl a
@[simp] theorem Weak.no' (els : List (List AV)) (t : Tok) : Weak (.sl els t) (.sl els .no) := .tok els t
@[simp] theorem WMem.rfl' (l : List AObj) : WMem l l := .refl l

/-! ### What belongs to a memory, and places in it -/
mutual
theorem AV.bel_mono {n m : Nat} (h : n ≤ m) : ∀ {a : AV}, a.bel n → a.bel m
  | .lit _, _ => trivial
  | .ptr _ _, q => Nat.lt_of_lt_of_le q h
  | .cptr _, q => belL_mono h q
  | .sl _ tok, q => ⟨belLL_mono h q.1, by
      cases tok with
      | own t ep s => exact Nat.lt_of_lt_of_le q.2 h
      | _ => trivial⟩
  | .agg _, q => belL_mono h q
  | .tup _, q => belL_mono h q
  | .iface _ v, q => AV.bel_mono h (a := v) q
  | .mp _, q => Nat.lt_of_lt_of_le q h
  | .it _, q => Nat.lt_of_lt_of_le q h
  | .fn _ _, q => belL_mono h q
  | .bag _, q => belLL_mono h q
  | .clo _ _, q => belL_mono h q
  | .slb _ _, q => Nat.lt_of_lt_of_le q h
  | .asl _ _ _, q => Nat.lt_of_lt_of_le q h
  | .aptr _ _ _ _, q => Nat.lt_of_lt_of_le q h
theorem belL_mono {n m : Nat} (h : n ≤ m) : ∀ {l : List AV}, belL n l → belL m l
  | [], _ => trivial
  | _ :: _, q => ⟨AV.bel_mono h q.1, belL_mono h q.2⟩
theorem belLL_mono {n m : Nat} (h : n ≤ m) : ∀ {l : List (List AV)}, belLL n l → belLL m l
  | [], _ => trivial
  | _ :: _, q => ⟨belL_mono h q.1, belLL_mono h q.2⟩
end

theorem AObj.bel_mono {n m : Nat} (h : n ≤ m) {o : AObj} (q : o.bel n) : o.bel m := by
  cases o with
  | blk cs => exact belL_mono h q
  | mapo es => exact fun e he => ⟨AV.bel_mono h (q e he).1, AV.bel_mono h (q e he).2⟩
  | opq φ => trivial
  | own P cur =>
    match cur, q with
    | none, _ => trivial
    | some (_, none), _ => trivial
    | some (_, some v), q => exact AV.bel_mono h (a := v) q
  | arr z els => exact belLL_mono h (l := els) q
  | mapr es vis cur t => exact ⟨fun e he => ⟨AV.bel_mono h (q.1 e he).1, AV.bel_mono h (q.1 e he).2⟩, Nat.lt_of_lt_of_le q.2 h⟩
  | _ => trivial

@[simp] theorem belLL_up {n k : Nat} {l : List (List AV)} (h : belLL n l) : belLL (n + k) l := belLL_mono (Nat.le_add_right _ _) h
@[simp] theorem belM_nil (n : Nat) : belM n [] := fun _ h => by cases h
@[simp] theorem belM_cons {n : Nat} {o : AObj} {M : List AObj} : belM n (o :: M) ↔ o.bel n ∧ belM n M := by simp [belM]
@[simp] theorem belM_append {n : Nat} {M M' : List AObj} : belM n (M ++ M') ↔ belM n M ∧ belM n M' := by
  simp only [belM, List.mem_append]
  exact ⟨fun h => ⟨fun o ho => h o (.inl ho), fun o ho => h o (.inr ho)⟩, fun h o ho => ho.elim (h.1 o) (h.2 o)⟩
@[simp] theorem belM_up {n k : Nat} {M : List AObj} (h : belM n M) : belM (n + k) M := fun o ho => AObj.bel_mono (Nat.le_add_right _ _) (h o ho)
theorem lt_of_some {α : Type} {M : List α} {i : Nat} {x : α} (h : M[i]? = some x) : i < M.length := by
  rcases Nat.lt_or_ge i M.length with h' | h'
  · exact h'
  · rw [List.getElem?_eq_none h'] at h; cases h
theorem get_of_some {α : Type} {M : List α} {i : Nat} {x : α} (h : M[i]? = some x) : M[i]'(lt_of_some h) = x := by
  rw [List.getElem?_eq_getElem (lt_of_some h)] at h; exact Option.some.inj h
@[simp] theorem bel_no (n : Nat) : Tok.no.bel n ↔ True := .rfl
@[simp] theorem bel_nn (n : Nat) : Tok.nn.bel n ↔ True := .rfl
@[simp] theorem bel_full (n : Nat) : Tok.full.bel n ↔ True := .rfl
@[simp] theorem bel_own (n t ep s : Nat) : (Tok.own t ep s).bel n ↔ t < n := .rfl
theorem WMem.get' {l l' : List AObj} (hl : l.length = l'.length) (h : ∀ i (h1 : i < l.length) (h2 : i < l'.length), WObj l[i] l'[i]) : WMem l l' := by
  induction l generalizing l' with
  | nil => cases l' with
    | nil => exact .nil
    | cons => simp at hl
  | cons o r ih => cases l' with
    | nil => simp at hl
    | cons o' r' => exact .cons (h 0 (by simp) (by simp)) (ih (by simpa using hl) fun i h1 h2 => h (i + 1) (by simpa using h1) (by simpa using h2))
theorem WMem.set' {M : List AObj} {i : Nat} {o o' : AObj} (h : WObj o o') : WMem (M.set i o) (M.set i o') := by
  refine .get' (by simp) fun j h1 h2 => ?_
  simp only [List.getElem_set]
  split
  · exact h
  · exact .refl _
def WeakL : List AV → List AV → Prop
  | [], [] => True
  | a :: l, b :: l' => Weak a b ∧ WeakL l l'
  | _, _ => False
theorem WeakL.get : ∀ {l l' : List AV}, WeakL l l' → ∃ _hl : l.length = l'.length, ∀ j (h1 : j < l.length) (h2 : j < l'.length), Weak l[j] l'[j]
  | [], [], _ => ⟨rfl, fun j h1 => absurd h1 (Nat.not_lt_zero _)⟩
  | a :: l, b :: l', h => by
    obtain ⟨hl, hj⟩ := WeakL.get h.2
    refine ⟨by simpa using hl, fun j h1 h2 => ?_⟩
    cases j with
    | zero => exact h.1
    | succ j => exact hj j (by simpa using h1) (by simpa using h2)
theorem WeakL.refl : ∀ (l : List AV), WeakL l l
  | [] => trivial
  | a :: l => ⟨.refl a, WeakL.refl l⟩
theorem WeakL.of : ∀ {l l' : List AV}, l.length = l'.length → (∀ j (h1 : j < l.length) (h2 : j < l'.length), Weak l[j] l'[j]) → WeakL l l'
  | [], [], _, _ => trivial
  | a :: l, b :: l', hl, h => ⟨h 0 (by simp) (by simp), WeakL.of (by simpa using hl) fun j h1 h2 => h (j + 1) (by simpa using h1) (by simpa using h2)⟩
  | [], _ :: _, hl, _ => by simp at hl
  | _ :: _, [], hl, _ => by simp at hl
@[simp] theorem WObj.blk' {l l' : List AV} : WObj (.blk l) (.blk l') ↔ WeakL l l' := ⟨fun h => by
    cases h with
    | refl => exact .refl _
    | blk _ _ hl h => exact .of hl h, fun h => by obtain ⟨hl, hj⟩ := h.get; exact .blk l l' hl hj⟩
@[simp] theorem WObj.rfl' (o : AObj) : WObj o o := .refl o
@[simp] theorem Weak.agg' {l l' : List AV} : Weak (.agg l) (.agg l') ↔ WeakL l l' := ⟨fun h => by
    cases h with
    | refl => exact .refl _
    | agg _ _ hl h => exact .of hl h, fun h => by obtain ⟨hl, hj⟩ := h.get; exact .agg l l' hl hj⟩
@[simp] theorem WeakL.nil' : WeakL [] [] ↔ True := .rfl
@[simp] theorem WeakL.cons' (a b : AV) (l l' : List AV) : WeakL (a :: l) (b :: l') ↔ Weak a b ∧ WeakL l l' := .rfl
attribute [simp] WMem.set'
@[simp] theorem WMem.cons' {o o' : AObj} {l l' : List AObj} : WMem (o :: l) (o' :: l') ↔ WObj o o' ∧ WMem l l' := ⟨fun h => by cases h with | cons h r => exact ⟨h, r⟩, fun h => .cons h.1 h.2⟩
@[simp] theorem WObj.dead' (o : AObj) : WObj o .dead := .dead o
@[simp] theorem one_int (k : IntKind) (n : Int) : (Value.int k n).oneCell' = true ↔ True := ⟨fun _ => trivial, fun _ => rfl⟩
@[simp] theorem one_bool (b : Bool) : (Value.bool b).oneCell' = true ↔ True := ⟨fun _ => trivial, fun _ => rfl⟩
@[simp] theorem one_string (s : ByteArray) : (Value.string s).oneCell' = true ↔ True := ⟨fun _ => trivial, fun _ => rfl⟩
theorem WMem.toSet {M : List AObj} {i : Nat} {o o' : AObj} (h : M[i]? = some o) (h' : WObj o o') : WMem M (M.set i o') := by
  have : M = M.set i o := by
    rw [← get_of_some h, List.set_getElem_self]
  rw (occs := .pos [1]) [this]
  exact .set' h'
end Go.Ab

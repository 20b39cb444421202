/- Runs on fixed data, reckoned: what is reckoned holds. No condition: over any program. -/
import Derived.Test.YtjjjeolcapebbaaGreatDoorEy
import Derived.Test.YtjjjeolcapebbaaGreatDoorM09
import Derived.Test.YtjjjeolcapebbaaGreatDoorM13
namespace Go.Ab

theorem flat_l {n : Nat} {σ : Nat → Nat} (ih : ∀ a, flatA n a = true → a.ren σ = a) : ∀ {l : List AV}, l.all (flatA n) = true → renL σ l = l
  | [], _ => rfl
  | a :: l, h => by
    simp only [List.all_cons, Bool.and_eq_true] at h
    rw [renL, ih a h.1, flat_l ih h.2]
theorem flat_ll {n : Nat} {σ : Nat → Nat} (ih : ∀ a, flatA n a = true → a.ren σ = a) : ∀ {l : List (List AV)}, (l.all fun q => q.all (flatA n)) = true → renLL σ l = l
  | [], _ => rfl
  | a :: l, h => by
    simp only [List.all_cons, Bool.and_eq_true] at h
    rw [renLL, flat_l ih h.1, flat_ll ih h.2]
theorem flat_ren {σ : Nat → Nat} : ∀ {n : Nat} {a : AV}, flatA n a = true → a.ren σ = a
  | 0, _, h => by cases h
  | n + 1, a, h => by
    have ih : ∀ a, flatA n a = true → a.ren σ = a := fun a => flat_ren (n := n)
    unfold flatA at h
    split at h
    · rfl
    · rw [AV.ren, flat_l ih h]
    · rw [AV.ren, flat_l ih h]
    · rw [AV.ren, flat_ll ih h]; rfl
    · rw [AV.ren, flat_ll ih h]; rfl
    · rw [AV.ren, flat_ll ih h]; rfl
    · rw [AV.ren, ih _ h]
    · rw [AV.ren, flat_l ih h]
    · cases h
theorem flat_bel {m : Nat} : ∀ {n : Nat} {a : AV}, flatA n a = true → a.bel m
  | 0, _, h => by cases h
  | n + 1, a, h => by
    have ih : ∀ a, flatA n a = true → a.bel m := fun a => flat_bel (n := n)
    have il : ∀ l : List AV, l.all (flatA n) = true → belL m l := fun l h => belL_iff.2 fun a ha => ih a (List.all_eq_true.1 h a ha)
    have ill : ∀ l : List (List AV), (l.all fun q => q.all (flatA n)) = true → belLL m l := fun l h => belLL_iff.2 fun a ha => il a (List.all_eq_true.1 h a ha)
    unfold flatA at h
    split at h
    · trivial
    · exact il _ h
    · exact il _ h
    · exact ⟨ill _ h, trivial⟩
    · exact ⟨ill _ h, trivial⟩
    · exact ⟨ill _ h, trivial⟩
    · have q := ih _ h; exact q
    · exact il _ h
    · cases h

section
variable {P : Program}
theorem resX_resA {ty : TyTab} {A : Env} {M : List AObj} : ∀ {rs : List ResultVar} {l : List AV}, resX ty A M rs = some l → ∃ p, resA ty A M rs = some (l, p) ∧ p
  | [], l, h => by cases h; exact ⟨True, rfl, trivial⟩
  | .tmp t :: r, l, h => by
    unfold resX at h
    split at h
    · rename_i v l' h1 h2
      cases h
      obtain ⟨p, hp, q⟩ := resX_resA h2
      exact ⟨p, by unfold resA; rw [h1, hp], q⟩
    · cases h
  | .cell a t :: r, l, h => by
    unfold resX at h
    split at h
    · rename_i i x l' hi h1 h2
      split at h
      · rename_i o ho
        split at h
        · rename_i hb
          cases h
          obtain ⟨p, hp, q⟩ := resX_resA h2
          exact ⟨o.obl ∧ p, by unfold resA; rw [hi, h1, hp]; simp only [ho], loadB_spec ho hb, q⟩
        · cases h
      · cases h
    · cases h

/-- What holds wherever a run stands. -/
def AtB (ty : TyTab) (B : Nat) (σ : St) : Prop := B ≤ σ.M.length ∧ belM σ.M.length σ.M ∧ ∀ rs l p, resA ty σ.A σ.M rs = some (l, p) → p → belL σ.M.length l
theorem AWp.facts {ty : TyTab} (hty : TyOk P ty) {n B : Nat} {c : Code} {Q : Exit → St → Prop} {σ : St} (h : AWp P n B c Q σ) : AWp P n B c (fun e σ' => Q e σ' ∧ AtB ty B σ') σ := by
  intro g0 g a at_
  refine wp_mono (h g0 g a at_) fun e a' w' ⟨σ', g', q, hw, at'⟩ => ⟨σ', g', ⟨q, ?_, ?_, ?_⟩, hw, at'⟩
  · rw [← at'.mem, ← at'.base]; exact at'.keep.len
  · rw [← at'.mem]; exact at'.sim.bel
  · intro rs l p hr hp
    rw [← at'.mem] at hr ⊢
    obtain ⟨vs, _, hl⟩ := run_results (P := P) hty at'.sim at'.env hr hp
    refine belL_iff.2 fun a ha => ?_
    obtain ⟨j, hj, rfl⟩ := List.mem_iff_getElem.1 ha
    exact (hl.get j hj).bel

/-- What a run goes by is right. -/
structure EvOk (P : Program) (T : EvT) : Prop where
  ty : TyOk P T.ty
  look : ∀ f fn, T.look f = some fn → P.funcs[f]? = some fn ∧ (fn.name == "runtime.NumGoroutine") = false
  lib : ∀ f l M o, T.lib f l M = some o → CallOk P f l M o ∧ o.obl
  mixed : P.follows .mixedOrders = true
  wr : ∀ t e, T.wr t = some e → ∀ w, (zeroValue t).run P w = .ok (.agg #[.pointer none, .slice none 0 0]) w

/-- What is asked of a runner: what it says holds. -/
def RunOk (P : Program) (run : Nat → Code → St → Option (Exit × St)) : Prop :=
  ∀ n B c σ e σ', run n c σ = some (e, σ') → noTags σ.A = true → AWp P n B c (fun e' σ'' => e' = e ∧ σ'' = σ' ∧ noTags σ'.A = true) σ

theorem args_tags : ∀ {k : Nat} {l : List AV}, noTags (argsE k l) = true
  | _, [] => rfl
  | k, a :: l => by
    unfold argsE noTags
    simp only [List.all_cons, Option.isNone_none, Bool.true_and]
    exact args_tags (k := k + 1) (l := l)
theorem unmap_w1 (o : AObj) : WObj o (unmap o) := by
  unfold unmap
  split
  · exact .mapr _ _ _ _
  · exact .refl _
theorem unmap_w : ∀ (M0 M : List AObj), WMem M (unmapZ M0 M)
  | _, [] => by unfold unmapZ; exact .nil
  | [], o :: r => .cons (unmap_w1 o) (unmap_w [] r)
  | o0 :: r0, o :: r => by
    refine .cons ?_ (unmap_w r0 r)
    split
    · exact .refl _
    · exact unmap_w1 o
theorem unmapM_w (M0 M : List AObj) : WMem M (unmapM M0 M) := by
  unfold unmapM
  split
  · exact unmap_w M0 M
  · exact .refl _
theorem unmap_bel1 {n : Nat} {o : AObj} (h : o.bel n) : (unmap o).bel n := by
  unfold unmap
  split
  · exact h.1
  · exact h
theorem unmapZ_bel {n : Nat} : ∀ (M0 M : List AObj), belM n M → belM n (unmapZ M0 M)
  | _, [], _ => by unfold unmapZ; intro o ho; cases ho
  | [], o :: r, h => fun q hq => by
    rcases List.mem_cons.1 hq with rfl | hq
    · exact unmap_bel1 (h o List.mem_cons_self)
    · exact unmapZ_bel [] r (fun x hx => h x (List.mem_cons_of_mem _ hx)) q hq
  | o0 :: r0, o :: r, h => fun q hq => by
    rcases List.mem_cons.1 hq with rfl | hq
    · split
      · exact h o List.mem_cons_self
      · exact unmap_bel1 (h o List.mem_cons_self)
    · exact unmapZ_bel r0 r (fun x hx => h x (List.mem_cons_of_mem _ hx)) q hq
theorem unmapM_bel {n : Nat} {M0 M : List AObj} (h : belM n M) : belM n (unmapM M0 M) := by
  unfold unmapM
  split
  · exact unmapZ_bel M0 M h
  · exact h
theorem resV_bel {m : Nat} {l : List AV} (h : belL m l) : (resV l).bel m := by
  unfold resV
  split
  · exact (belL_iff.1 h) _ (by simp)
  · exact h
theorem wmem_take : ∀ {A B : List AObj} {n : Nat}, WMem A B → WMem (A.take n) (B.take n)
  | _, _, 0, _ => by simp only [List.take_zero]; exact .nil
  | _, _, _ + 1, .nil => .nil
  | _, _, n + 1, .cons h r => .cons h (wmem_take r)
theorem bodyX_spec {T : EvT} (hT : EvOk P T) {run : Nat → Code → St → Option (Exit × St)} (hr : RunOk P run) {f : FuncId} {fn : Func} (hf : T.look f = some fn) {l : List AV} {M M' : List AObj} {av : AV} (h : bodyX T run fn l M = some (av, M')) :
    CallOk P f l M { av := av, M := some M' } ∧ ((∀ m, av.bel m) → M = [] → CallOk P f l M { av := av }) ∧ (memE M' M = true → av.bel M.length → CallOk P f l M { av := av }) := by
  obtain ⟨h1, h2⟩ := hT.look f fn hf
  unfold bodyX at h
  split at h
  · rename_i c hb
    split at h
    · rename_i hl
      have main : ∀ (e : Exit) (σ : St) (vs : List AV), run fn.ntmps c ⟨argsE 0 l, M⟩ = some (e, σ) → (e = .normal ∨ e = .ret) → resX T.ty σ.A σ.M fn.results.toList = some vs → av = resV vs → M' = unmapM M σ.M →
          CallOk P f l M { av := av, M := some M' } ∧ ((∀ m, av.bel m) → M = [] → CallOk P f l M { av := av }) ∧ (memE M' M = true → av.bel M.length → CallOk P f l M { av := av }) := by
        rintro e σ vs hrun he hres rfl rfl
        obtain ⟨p, hp, q⟩ := resX_resA hres
        have hw := AWp.facts hT.ty (hr fn.ntmps M.length c _ e σ hrun args_tags)
        refine ⟨?_, ?_, ?_⟩
        · refine call_of_body hT.ty h1 hb h2 rfl hl fun _ _ _ => AWp.mono hw fun e' σ'' hq => ?_
          obtain ⟨⟨rfl, rfl, _⟩, b1, b2, b3⟩ := hq
          have hfin : finK { av := resV vs, M := some (unmapM M σ''.M) } M σ''.M (resA T.ty σ''.A σ''.M fn.results.toList) := by
            rw [hp]
            have hl := (unmapM_w M σ''.M).length
            refine ⟨q, .refl _, ?_, ?_, ?_, ?_⟩
            · simp only [Option.getD_some]; rw [← hl]; exact b1
            · simp only [Option.getD_some]; rw [← hl, List.take_length]; exact unmapM_w _ _
            · simp only [Option.getD_some]; rw [← hl]; exact resV_bel (b3 _ _ _ hp q)
            · simp only [Option.getD_some]; rw [← hl]; exact unmapM_bel b2
          rcases he with rfl | rfl <;> exact hfin
        · rintro hav rfl
          refine call_of_body hT.ty h1 hb h2 rfl hl fun _ _ _ => AWp.mono hw fun e' σ'' hq => ?_
          obtain ⟨⟨rfl, rfl, _⟩, b1, b2, b3⟩ := hq
          have hfin : finK { av := resV vs } [] σ''.M (resA T.ty σ''.A σ''.M fn.results.toList) := by
            rw [hp]
            exact ⟨q, .refl _, Nat.zero_le _, by simp only [Option.getD_none, List.length_nil, List.take_zero]; exact .nil, hav _, fun o ho => by cases ho⟩
          rcases he with rfl | rfl <;> exact hfin
        · intro hm hav
          obtain ⟨N, hN⟩ := memE_spec hm
          refine call_of_body hT.ty h1 hb h2 rfl hl fun _ hbM _ => AWp.mono hw fun e' σ'' hq => ?_
          obtain ⟨⟨rfl, rfl, _⟩, b1, b2, b3⟩ := hq
          have hfin : finK { av := resV vs } M σ''.M (resA T.ty σ''.A σ''.M fn.results.toList) := by
            rw [hp]
            refine ⟨q, .refl _, Nat.le_refl _, ?_, hav, hbM⟩
            simp only [Option.getD_none]
            have w := wmem_take (n := M.length) (unmapM_w M σ''.M)
            rw [hN, List.take_left'] at w
            · exact w
            · rfl
          rcases he with rfl | rfl <;> exact hfin
      split at h
      · rename_i σ hrun
        obtain ⟨vs, hres, e⟩ := Option.map_eq_some_iff.1 h
        cases e
        exact main _ σ vs hrun (.inl rfl) hres rfl rfl
      · rename_i σ hrun
        obtain ⟨vs, hres, e⟩ := Option.map_eq_some_iff.1 h
        cases e
        exact main _ σ vs hrun (.inr rfl) hres rfl rfl
      · cases h
    · cases h
  · cases h
theorem callX_free {T : EvT} (hT : EvOk P T) {run : Nat → Code → St → Option (Exit × St)} : Free (callX T run) := by
  intro f l M o h
  unfold callX at h
  split at h
  · rename_i o' ho; cases h; exact (hT.lib _ _ _ _ ho).2
  · split at h
    · split at h
      · split at h
        · split at h
          · cases h; trivial
          · cases h; trivial
        · cases h
      · obtain ⟨p, _, rfl⟩ := Option.map_eq_some_iff.1 h; split <;> trivial
    · cases h
theorem callX_ok {T : EvT} (hT : EvOk P T) {run : Nat → Code → St → Option (Exit × St)} (hr : RunOk P run) : GamOk P (callX T run) := by
  refine ⟨fun f l M o h => ?_⟩
  unfold callX at h
  split at h
  · rename_i o' ho; cases h; exact (hT.lib _ _ _ _ ho).1
  · split at h
    · rename_i fn hf
      split at h
      · rename_i hfl
        split at h
        · rename_i av M' hb
          split at h
          · rename_i hav
            cases h
            have q := (bodyX_spec hT hr hf hb).2.1 (fun m => flat_bel hav) rfl
            have q2 := call_frame (M := M) [] q (by simp) rfl (fun k i hk => by simp at hk)
            have e1 : renL (into [] ([] : List AObj).length M.length) l = l := flat_l (fun a => flat_ren (n := 8)) hfl
            rw [e1] at q2
            refine callOk_conv q2 trivial (WeakL.refl _) ?_ ?_
            · simp only [frameOut]; exact flat_ren hav
            · simp [frameOut, putAll]
          · cases h
            have q := (bodyX_spec hT hr hf hb).1
            have q2 := call_frame (M := M) [] q (by simp) rfl (fun k i hk => by simp at hk)
            have e1 : renL (into [] ([] : List AObj).length M.length) l = l := flat_l (fun a => flat_ren (n := 8)) hfl
            rw [e1] at q2
            have e2 : frameOut [] [] M { av := av, M := some M' } = { av := av.ren (into [] 0 M.length), M := some (M ++ M'.map (AObj.ren (into [] 0 M.length))) } := by
              simp [frameOut, putAll]
            rw [e2] at q2
            exact q2
        · cases h
      · obtain ⟨p, hp, rfl⟩ := Option.map_eq_some_iff.1 h
        split
        · rename_i hc
          simp only [Bool.and_eq_true] at hc
          exact (bodyX_spec hT hr hf hp).2.2 hc.1.2 (belB_bel hc.2)
        · exact (bodyX_spec hT hr hf hp).1
    · cases h

/-- The pairs that a drawn region's law asks after. -/
def psOf (ops : List Oper) (info : List (Bool × List Nat)) : List (Nat × Nat) :=
  if info.all fun x => !x.1 then [] else
  let B := cloGo ops []
  let N := ops.length
  (List.range N).flatMap fun k => if (info.getD k (false, [])).1 then [] else
    ((List.range (N + 1)).filter fun p => isPB info p && !(p == textP info k) && !((List.range N).any fun w => (info.getD w (false, [])).1 && ((hangs B k w && decide (p ≤ w)) || (hangs B w k && decide (w < p))))).map fun p => (k, p)
def drawX (T : EvT) (Γ : Gam) (n : Nat) (ops : Array Oper) (σ : St) : Option St := match runR T.ty Γ ops ops.toList σ.A σ.M with
  | some (recs, A1, M1) =>
    if oblB T.ty ops.toList recs && drawB n (psOf ops.toList (recs.map infoOf)) ops.toList (recs.map infoOf) && crossB T.ty Γ ops.toList recs σ.M (psOf ops.toList (recs.map infoOf)) then
      some ⟨keepE A1 (dstL ops.toList) (without (dstL ops.toList ++ []) σ.A), M1⟩
    else none
  | none => none
theorem AWp.wmem {n B : Nat} {c : Code} {Q Q' : Exit → St → Prop} {σ : St} (h : AWp P n B c Q σ) (hq : ∀ e σ1, Q e σ1 → ∃ M2, WMem σ1.M M2 ∧ Q' e ⟨σ1.A, M2⟩) : AWp P n B c Q' σ := by
  intro g0 g a at_
  refine wp_mono (h g0 g a at_) fun e a' w' ⟨σ1, g', q, hw, at'⟩ => ?_
  obtain ⟨M2, h1, h2⟩ := hq e σ1 q
  have hm : WMem g'.M M2 := by rw [at'.mem]; exact h1
  exact ⟨⟨σ1.A, M2⟩, ⟨M2, g'.β, g'.ρ, g'.w, g'.X⟩, h2, hw, at'.base, at'.ax, at'.keep.wmem hm, rfl, at'.sim.wmem hm, at'.env.wmem hm, at'.size, at'.defers⟩
/-- Where the map lies that an iterator goes over. -/
def mapAt (u : Nat) : List AObj → Option Nat
  | [] => none
  | .mapr _ _ _ t :: r => if t = u then some 0 else (mapAt u r).map (· + 1)
  | _ :: r => (mapAt u r).map (· + 1)
def seenB (vis : List Value) (c : AV) : Bool := match kval c with
  | some k => vis.any fun x => litE x k
  | none => false
/-- A step of a range over a map with at most one entry left. -/
def nextX (ops : Array Oper) (σ : St) : Option St := match ops.toList with
  | [o1, o2] => match o1.op, o1.guard, o1.dst, o2.op, o2.guard, o2.dst with
    | .next (.tmp t) false, none, some d1, .extract (.tmp d3) 0, none, some d2 => if d3 = d1 then match ent σ.A t with
      | some (none, .it u) => match mapAt u σ.M with
        | some i => match σ.M[i]? with
          | some (.mapr es vis _ u') => if u' = u ∧ (es.all fun e => (kval e.1).isSome) = true then match es.filter fun e => !seenB vis e.1 with
            | [] => some ⟨keepE [⟨d2, none, .lit (.bool false)⟩] [d2] (without [d1, d2] σ.A), σ.M.set i (.mapo es)⟩
            | [e] => match kval e.1 with
              | some k => if litE k k then some ⟨keepE [⟨d2, none, .lit (.bool true)⟩] [d2] (without [d1, d2] σ.A), σ.M.set i (.mapr es (k :: vis) (some k) u)⟩ else none
              | none => none
            | _ => none else none
          | _ => none
        | none => none
      | _ => none else none
    | _, _, _, _, _, _ => none
  | _ => none
theorem seenB_mem {vis : List Value} {c : AV} {k : Value} (hk : kval c = some k) (h : seenB vis c = true) : k ∈ vis := by
  unfold seenB at h
  rw [hk] at h
  obtain ⟨x, hx, he⟩ := List.any_eq_true.1 h
  exact litE_eq he ▸ hx
theorem nextX_ok {T : EvT} (hT : EvOk P T) {Γ : Gam} (hΓ : GamOk P Γ) {n B : Nat} {id : Nat} {ops : Array Oper} {σ σ' : St} (hd : dstsOk ops n ops.toList [] = true) (h : nextX ops σ = some σ') (ht : noTags σ.A = true) :
    AWp P n B (.region id ops false) (fun e' σ'' => e' = .normal ∧ σ'' = σ' ∧ noTags σ'.A = true) σ := by
  unfold nextX at h
  split at h
  · rename_i o1 o2 hops
    split at h
    · rename_i t d1 d3 d2 q1 q2 q3 q4 q5 q6
      split at h
      · rename_i hdd
        subst hdd
        split at h
        · rename_i u he
          split at h
          · rename_i i hi
            split at h
            · rename_i es vis cur u' hM
              split at h
              · rename_i hc
                obtain ⟨rfl, hks⟩ := hc
                have hk : ∀ p ∈ es, ∃ k, kval p.1 = some k := fun p hp => Option.isSome_iff_exists.1 (List.all_eq_true.1 hks p hp)
                have hdl : dstL ops.toList = [d3, d2] := by rw [hops]; simp [dstL, q3, q6]
                have hrun : ∀ (b : Bool) (tl : List AV) (M1 : List AObj), runR T.ty Γ ops [o2] (⟨d3, none, .tup (.lit (.bool b) :: tl)⟩ :: σ.A) M1 =
                    some ([⟨⟨d3, none, .tup (.lit (.bool b) :: tl)⟩ :: σ.A, M1, [], none, { av := .lit (.bool b) }⟩], ⟨d2, none, .lit (.bool b)⟩ :: ⟨d3, none, .tup (.lit (.bool b) :: tl)⟩ :: σ.A, M1) := fun b tl M1 => by
                  simp [runR, recOf, tagOf, q4, q5, q6, evOp, evX, getE, ent, Ab.vis, extractOut, putE]
                have fin : ∀ (b : Bool) (tl : List AV) (M1 : List AObj), regE [d2] [] ops.toList σ ⟨keepE [⟨d2, none, .lit (.bool b)⟩] [d2] (without [d3, d2] σ.A), M1⟩
                    (runR T.ty Γ ops [o2] (⟨d3, none, .tup (.lit (.bool b) :: tl)⟩ :: σ.A) M1) := fun b tl M1 => by
                  rw [hrun]
                  refine ⟨⟨trivial, trivial⟩, ?_, rfl⟩
                  rw [hdl]
                  simp [keepE, ent]
                split at h
                · rename_i hf
                  cases h
                  refine AWp.wmem (Q := fun e' σ'' => e' = .normal ∧ σ'' = ⟨keepE [⟨d2, none, .lit (.bool false)⟩] [d2] (without [d3, d2] σ.A), σ.M⟩) ?_ fun e' σ1 q => by
                    obtain ⟨rfl, rfl⟩ := q
                    exact ⟨_, .toSet hM (.mapr _ _ _ _), rfl, rfl, keepE_tags (without_tags ht)⟩
                  refine AWp.regNextK hT.ty hΓ hops q1 q2 q3 (keep := [d2]) (dead := []) hd ht he hM hk (fun _ => ⟨_, fin false [] σ.M, rfl, rfl⟩) fun c k v x hkc hkv hmem => ?_
                  have : (c, v) ∈ es.filter fun e => !seenB vis e.1 := by
                    rw [List.mem_filter]
                    refine ⟨hmem, ?_⟩
                    cases hs : seenB vis (c, v).1 with
                    | true => exact absurd (seenB_mem hkc hs) hkv
                    | false => rfl
                  rw [hf] at this; cases this
                · rename_i e hf
                  split at h
                  · rename_i k0 hk0
                    split at h
                    case isFalse => cases h
                    rename_i hrf
                    cases h
                    refine AWp.regNextK hT.ty hΓ hops q1 q2 q3 (keep := [d2]) (dead := []) hd ht he hM hk (fun hall => ?_) fun c k v x hkc hkv hmem => ?_
                    · have hin : e ∈ es.filter fun e => !seenB vis e.1 := by rw [hf]; simp
                      have q := hall e.1 k0 e.2 (List.mem_filter.1 hin).1 hk0
                      have hs : seenB vis e.1 = true := by unfold seenB; rw [hk0]; exact List.any_eq_true.2 ⟨k0, q, hrf⟩
                      have := (List.mem_filter.1 hin).2
                      rw [hs] at this; cases this
                    · have hin : (c, v) ∈ es.filter fun e => !seenB vis e.1 := by
                        rw [List.mem_filter]
                        refine ⟨hmem, ?_⟩
                        cases hs : seenB vis (c, v).1 with
                        | true => exact absurd (seenB_mem hkc hs) hkv
                        | false => rfl
                      rw [hf] at hin
                      simp only [List.mem_singleton] at hin
                      subst hin
                      rw [hk0] at hkc
                      cases hkc
                      exact ⟨_, fin true [c, .lit x] _, rfl, rfl, keepE_tags (without_tags ht)⟩
                  · cases h
                · cases h
              · cases h
            · cases h
          · cases h
        · cases h
      · cases h
    · cases h
  · cases h

/-- A Writer is made. -/
def allocX (T : EvT) (ops : Array Oper) (σ : St) : Option St := match ops.toList with
  | [o1] => match o1.op, o1.guard, o1.dst with
    | .alloc t, none, some d1 => match T.wr t with
      | some e => some ⟨⟨d1, none, .ptr σ.M.length 0⟩ :: without [] (without [d1] σ.A), σ.M ++ [.opq (wrO t e [])]⟩
      | none => none
    | _, _, _ => none
  | _ => none
theorem allocX_ok {T : EvT} (hT : EvOk P T) {n B : Nat} {id : Nat} {ops : Array Oper} {σ σ' : St} (hd : dstsOk ops n ops.toList [] = true) (h : allocX T ops σ = some σ') (ht : noTags σ.A = true) :
    AWp P n B (.region id ops false) (fun e' σ'' => e' = .normal ∧ σ'' = σ' ∧ noTags σ'.A = true) σ := by
  unfold allocX at h
  split at h
  · rename_i o1 hops
    split at h
    · rename_i t d1 q1 q2 q3
      split at h
      · rename_i e he
        cases h
        refine AWp.regAlloc (wrO t e []) hops q1 q2 q3 hd ht (hT.wr t e he) rfl (fun b o => wr_fresh _ _ b o) (dead := []) ⟨rfl, rfl, ?_⟩
        unfold noTags
        simp only [List.all_cons, Option.isNone_none, Bool.true_and]
        exact without_tags (without_tags ht)
      · cases h
    · cases h
  · cases h
def regY (T : EvT) (Γ : Gam) (n : Nat) (ops : Array Oper) (draw : Bool) (σ : St) : Option St :=
  if draw then drawX T Γ n ops σ
  else if dstsOk ops n ops.toList [] then match nextX ops σ with
    | some σ' => some σ'
    | none => match allocX T ops σ with
    | some σ' => some σ'
    | none => match runX T.ty Γ ops ops.toList σ.A σ.M with
      | some (A1, M1) => some ⟨keepE A1 (dstL ops.toList) (without (dstL ops.toList) σ.A), M1⟩
      | none => none
  else none
theorem regY_ok {T : EvT} (hT : EvOk P T) {Γ : Gam} (hΓ : GamOk P Γ) (hf : Free Γ) {n B : Nat} {id : Nat} {ops : Array Oper} {draw : Bool} {σ σ' : St} (h : regY T Γ n ops draw σ = some σ') (ht : noTags σ.A = true) :
    AWp P n B (.region id ops draw) (fun e' σ'' => e' = .normal ∧ σ'' = σ' ∧ noTags σ'.A = true) σ := by
  obtain ⟨A, M⟩ := σ
  unfold regY at h
  split at h
  · rename_i hd
    subst hd
    unfold drawX at h
    split at h
    · rename_i recs A1 M1 hrun
      split at h
      · rename_i hb
        cases h
        simp only [Bool.and_eq_true] at hb
        exact AWp.regionD' hT.mixed hT.ty hΓ (dstL ops.toList) [] (psOf ops.toList (recs.map infoOf)) hrun hb.1.2 (crossB_spec hf hb.2) ht (oblB_spec hf hrun hb.1.1) ⟨rfl, rfl, keepE_tags (without_tags ht)⟩
      · cases h
    · cases h
  · rename_i hd
    have hd : draw = false := by simpa using hd
    subst hd
    split at h
    · rename_i hds
      split at h
      · rename_i σ1 hnx
        cases h
        exact nextX_ok hT hΓ hds hnx ht
      split at h
      · rename_i σ1 hnx
        cases h
        exact allocX_ok hT hds hnx ht
      split at h
      · rename_i A1 M1 hrun
        cases h
        intro g0 g a at_
        refine wp_region_list (run_textX hT.ty hΓ hf n ops.toList hrun hds (fun e he τ hτ => ?_) at_.size at_.mem at_.sim at_.env fun a' g' q1 q2 q3 hx q4 q5 q6 => ?_)
        · have := List.all_eq_true.1 ht e he
          simp [hτ] at this
        · refine ⟨_, g', ⟨rfl, rfl, keepE_tags (without_tags ht)⟩, rfl, at_.base, hx.trans at_.ax, at_.keep.trans q5, q3, q4, keepE_rel q6 ?_ (dstL ops.toList), q1, by rw [q2]; exact at_.defers⟩
          intro t tag av he
          rw [without_ent] at he
          split at he
          · cases he
          · rename_i hc
            refine q6 t tag av ?_
            rw [runX_ent hrun t (by simpa using hc)]; exact he
      · cases h
    · cases h
end
end Go.Ab

/- Runs on fixed data: a range over a map whose entries come in whatever order: each order is run, and all must come to one end (objects apart of which nothing is asked any more). No condition: over any program. -/
import Derived.Test.YtjjjeolcapebbaaGreatDoorEt2
namespace Go.Ab
section
variable {P : Program} {n B : Nat}
def exE : Exit → Exit → Bool
  | .normal, .normal => true
  | .ret, .ret => true
  | .exit a, .exit b => a == b
  | _, _ => false
theorem exE_eq {a b : Exit} (h : exE a b = true) : a = b := by
  unfold exE at h
  split at h
  · rfl
  · rfl
  · rw [eq_of_beq h]
  · cases h
def entE (a b : Env) (e : Ent) : Bool := e.tag.isNone && match ent a e.t, ent b e.t with
  | some (none, x), some (none, y) => avE 12 e.av x && avE 12 e.av y
  | _, _ => false
/-- What two environments have in common. -/
def mergeA (a b : Env) : Env := a.filter (entE a b)
def SubEnv (A A0 : Env) : Prop := ∀ t p, ent A0 t = some p → ent A t = some p
theorem ent_filter {p : Ent → Bool} {t : Nat} {q : Tag × AV} : ∀ {a : Env}, ent (a.filter p) t = some q → ∃ e ∈ a, p e = true ∧ e.t = t ∧ q = (e.tag, e.av)
  | [], h => by cases h
  | e :: r, h => by
    rw [List.filter_cons] at h
    split at h
    · rename_i hp
      unfold ent at h
      split at h
      · rename_i ht; cases h; exact ⟨e, List.mem_cons_self, hp, ht, rfl⟩
      · obtain ⟨x, h1, h2⟩ := ent_filter h; exact ⟨x, List.mem_cons_of_mem _ h1, h2⟩
    · obtain ⟨x, h1, h2⟩ := ent_filter h; exact ⟨x, List.mem_cons_of_mem _ h1, h2⟩
theorem mergeA_w {a b : Env} : SubEnv a (mergeA a b) ∧ SubEnv b (mergeA a b) ∧ noTags (mergeA a b) = true := by
  have key : ∀ t q, ent (mergeA a b) t = some q → ent a t = some q ∧ ent b t = some q := fun t q h => by
    obtain ⟨e, _, hp, rfl, rfl⟩ := ent_filter h
    simp only [entE, Bool.and_eq_true, Option.isNone_iff_eq_none] at hp
    obtain ⟨h1, h2⟩ := hp
    split at h2
    · rename_i x y hx hy
      simp only [Bool.and_eq_true] at h2
      rw [hx, hy, h1, avE_eq h2.1]
      exact ⟨rfl, by rw [← avE_eq h2.1, ← avE_eq h2.2]⟩
    · cases h2
  refine ⟨fun t q h => (key t q h).1, fun t q h => (key t q h).2, List.all_eq_true.2 fun e he => ?_⟩
  have := (List.mem_filter.1 he).2
  simp only [entE, Bool.and_eq_true] at this
  exact this.1
/-- What two memories have in common. -/
def mergeM : List AObj → List AObj → Option (List AObj)
  | [], [] => some []
  | a :: l, b :: m => match mergeM l m with
    | some r => some ((if objE a b then a else .dead) :: r)
    | none => none
  | _, _ => none
/-- All as it was, or not known any more. -/
def DM : List AObj → List AObj → Prop
  | [], [] => True
  | a :: l, b :: m => (b = a ∨ b = .dead) ∧ DM l m
  | _, _ => False
theorem DM.refl : ∀ (l : List AObj), DM l l
  | [] => trivial
  | _ :: l => ⟨.inl rfl, DM.refl l⟩
theorem DM.trans : ∀ {a b c : List AObj}, DM a b → DM b c → DM a c
  | [], [], [], _, _ => trivial
  | _ :: _, _ :: _, _ :: _, h, h' => ⟨by
      rcases h'.1 with q | q
      · rw [q]; exact h.1
      · exact .inr q, h.2.trans h'.2⟩
  | [], _ :: _, _, h, _ => h.elim
  | _ :: _, [], _, h, _ => h.elim
  | [], [], _ :: _, _, h => h.elim
  | _ :: _, _ :: _, [], _, h => h.elim
theorem DM.wmem : ∀ {a b : List AObj}, DM a b → WMem a b
  | [], [], _ => .nil
  | _ :: _, _ :: _, h => .cons (by
      rcases h.1 with q | q
      · rw [q]; exact .refl _
      · rw [q]; exact .dead _) h.2.wmem
  | [], _ :: _, h => h.elim
  | _ :: _, [], h => h.elim
theorem mergeM_w : ∀ {l m r : List AObj}, mergeM l m = some r → DM l r ∧ DM m r
  | [], [], r, h => by cases h; exact ⟨trivial, trivial⟩
  | a :: l, b :: m, r, h => by
    unfold mergeM at h
    split at h
    · rename_i r' hr
      cases h
      obtain ⟨h1, h2⟩ := mergeM_w hr
      split
      · rename_i he
        have := objE_eq he
        subst this
        exact ⟨⟨.inl rfl, h1⟩, .inl rfl, h2⟩
      · exact ⟨⟨.inr rfl, h1⟩, .inr rfl, h2⟩
    · cases h
  | [], _ :: _, r, h => by cases h
  | _ :: _, [], r, h => by cases h
/-- The one end says no more than the other. -/
def Wk (r m : Exit × St) : Prop := r.1 = m.1 ∧ SubEnv r.2.A m.2.A ∧ DM r.2.M m.2.M ∧ (noTags r.2.A = true → noTags m.2.A = true)
theorem Wk.refl (r : Exit × St) : Wk r r := ⟨rfl, fun _ _ h => h, DM.refl _, id⟩
theorem Wk.trans {a b c : Exit × St} (h : Wk a b) (h' : Wk b c) : Wk a c := ⟨h.1.trans h'.1, fun t p q => h.2.1 t p (h'.2.1 t p q), h.2.2.1.trans h'.2.2.1, fun q => h'.2.2.2 (h.2.2.2 q)⟩
def mergeR (r q : Exit × St) : Option (Exit × St) :=
  if exE r.1 q.1 then (mergeM r.2.M q.2.M).map fun M => (r.1, ⟨mergeA r.2.A q.2.A, M⟩) else none
theorem mergeR_w {r q m : Exit × St} (h : mergeR r q = some m) : Wk r m ∧ Wk q m := by
  unfold mergeR at h
  split at h
  · rename_i hc
    obtain ⟨M, hM, rfl⟩ := Option.map_eq_some_iff.1 h
    obtain ⟨h1, h2⟩ := mergeM_w hM
    obtain ⟨k1, k2, k3⟩ := mergeA_w (a := r.2.A) (b := q.2.A)
    exact ⟨⟨rfl, k1, h1, fun _ => k3⟩, (exE_eq hc).symm, k2, h2, fun _ => k3⟩
  · cases h
theorem AWp.mono' {n B : Nat} {c : Code} {Q Q' : Exit → St → Prop} {σ : St} (h : AWp P n B c Q σ) (hq : ∀ e σ1, Q e σ1 → ∃ σ2, SubEnv σ1.A σ2.A ∧ σ1.M = σ2.M ∧ Q' e σ2) : AWp P n B c Q' σ := by
  intro g0 g a at_
  refine wp_mono (h g0 g a at_) fun e a' w' ⟨σ1, g', q, hw, at'⟩ => ?_
  obtain ⟨σ2, h1, h2, h3⟩ := hq e σ1 q
  exact ⟨σ2, g', h3, hw, at'.base, at'.ax, at'.keep, at'.mem.trans h2, at'.sim, fun t tag av he => at'.env t tag av (h1 t _ he), at'.size, at'.defers⟩
theorem AWp.wst {n B : Nat} {c : Code} {Q Q' : Exit → St → Prop} {σ : St} (h : AWp P n B c Q σ) (hq : ∀ e σ1, Q e σ1 → ∃ σ2, WMem σ1.M σ2.M ∧ SubEnv σ1.A σ2.A ∧ Q' e σ2) : AWp P n B c Q' σ := by
  refine AWp.mono' (AWp.wmem (Q' := fun e τ => ∃ σ2, SubEnv τ.A σ2.A ∧ τ.M = σ2.M ∧ Q' e σ2) h fun e σ1 q => ?_) ?_
  · obtain ⟨σ2, h1, h2, h3⟩ := hq e σ1 q
    exact ⟨σ2.M, h1, σ2, h2, rfl, h3⟩
  · rintro e τ ⟨σ2, h1, h2, h3⟩
    exact ⟨σ2, h1, h2, h3⟩
def foldR : Exit × St → List (Option (Exit × St)) → Option (Exit × St)
  | r, [] => some r
  | _, none :: _ => none
  | r, some q :: l => match mergeR r q with
    | some m => foldR m l
    | none => none
theorem foldR_w : ∀ {l : List (Option (Exit × St))} {r m : Exit × St}, foldR r l = some m → Wk r m ∧ ∀ q ∈ l, ∃ q', q = some q' ∧ Wk q' m
  | [], r, m, h => by cases h; exact ⟨.refl _, fun _ hq => by cases hq⟩
  | none :: l, r, m, h => by cases h
  | some q :: l, r, m, h => by
    unfold foldR at h
    split at h
    · rename_i m' hm
      obtain ⟨h1, h2⟩ := mergeR_w hm
      obtain ⟨h3, h4⟩ := foldR_w h
      refine ⟨h1.trans h3, fun q' hq' => ?_⟩
      rcases List.mem_cons.1 hq' with rfl | hq'
      · exact ⟨q, rfl, h2.trans h3⟩
      · exact h4 q' hq'
    · cases h
/-- What may come next in a range over a map of which two entries or more are left. -/
def nextsX (ops : Array Oper) (σ : St) : Option (List St) := match ops.toList with
  | [o1, o2] => match o1.op, o1.guard, o1.dst, o2.op, o2.guard, o2.dst with
    | .next (.tmp t) false, none, some d1, .extract (.tmp d3) 0, none, some d2 => if d3 = d1 then match ent σ.A t with
      | some (none, .it u) => match mapAt u σ.M with
        | some i => match σ.M[i]? with
          | some (.mapr es vis _ u') => if u' = u ∧ (es.all fun e => (kval e.1).isSome) = true then match es.filter fun e => !seenB vis e.1 with
            | e :: e2 :: l => if litE ((kval e.1).getD undef) ((kval e.1).getD undef) then
                some ((e :: e2 :: l).map fun e => ⟨keepE [⟨d2, none, .lit (.bool true)⟩] [d2] (without [d1, d2] σ.A), σ.M.set i (.mapr es ((kval e.1).getD undef :: vis) (some ((kval e.1).getD undef)) u)⟩) else none
            | _ => none else none
          | _ => none
        | none => none
      | _ => none else none
    | _, _, _, _, _, _ => none
  | _ => none
theorem nextsX_ok {T : EvT} (hT : EvOk P T) {Γ : Gam} (hΓ : GamOk P Γ) {id : Nat} {ops : Array Oper} {σ : St} {l : List St} (hd : dstsOk ops n ops.toList [] = true) (h : nextsX ops σ = some l) (ht : noTags σ.A = true) :
    AWp P n B (.region id ops false) (fun e' σ'' => e' = .normal ∧ σ'' ∈ l ∧ noTags σ''.A = true) σ := by
  unfold nextsX at h
  split at h
  case h_2 => cases h
  rename_i o1 o2 hops
  split at h
  case h_2 => cases h
  rename_i t d1 d3 d2 q1 q2 q3 q4 q5 q6
  split at h
  case isFalse => cases h
  rename_i hdd
  subst hdd
  split at h
  case h_2 => cases h
  rename_i u he
  split at h
  case h_2 => cases h
  rename_i i hi
  split at h
  case h_2 => cases h
  rename_i es vis cur u' hM
  split at h
  case isFalse => cases h
  rename_i hc
  obtain ⟨rfl, hks⟩ := hc
  have hk : ∀ p ∈ es, ∃ k, kval p.1 = some k := fun p hp => Option.isSome_iff_exists.1 (List.all_eq_true.1 hks p hp)
  have hdl : dstL ops.toList = [d3, d2] := by rw [hops]; simp [dstL, q3, q6]
  have hrun : ∀ (b : Bool) (tl : List AV) (M1 : List AObj), runR T.ty Γ ops [o2] (⟨d3, none, .tup (.lit (.bool b) :: tl)⟩ :: σ.A) M1 =
      some ([⟨⟨d3, none, .tup (.lit (.bool b) :: tl)⟩ :: σ.A, M1, [], none, { av := .lit (.bool b) }⟩], ⟨d2, none, .lit (.bool b)⟩ :: ⟨d3, none, .tup (.lit (.bool b) :: tl)⟩ :: σ.A, M1) := fun b tl M1 => by
    simp [runR, recOf, tagOf, q4, q5, q6, evOp, evX, getE, ent, Ab.vis, extractOut, putE]
  have fin : ∀ (b : Bool) (tl : List AV) (M1 : List AObj), regE [d2] [] ops.toList σ ⟨keepE [⟨d2, none, .lit (.bool b)⟩] [d2] (without [d3, d2] σ.A), M1⟩
      (runR T.ty Γ ops [o2] (⟨d3, none, .tup (.lit (.bool b) :: tl)⟩ :: σ.A) M1) := fun b tl M1 => by
    rw [hrun]
    refine ⟨⟨trivial, trivial⟩, ?_, rfl⟩
    rw [hdl]
    simp [keepE, ent]
  split at h
  case h_2 => cases h
  rename_i e e2 r hf
  split at h
  case isFalse => cases h
  rename_i hrf
  cases h
  refine AWp.regNextK hT.ty hΓ hops q1 q2 q3 (keep := [d2]) (dead := []) hd ht he hM hk (fun hall => ?_) fun c k v x hkc hkv hmem => ?_
  · have hin : e ∈ es.filter fun e => !seenB vis e.1 := by rw [hf]; simp
    obtain ⟨k0, hk0⟩ := hk e (List.mem_filter.1 hin).1
    rw [hk0] at hrf
    have q := hall e.1 k0 e.2 (List.mem_filter.1 hin).1 hk0
    have hs : seenB vis e.1 = true := by unfold seenB; rw [hk0]; exact List.any_eq_true.2 ⟨k0, q, hrf⟩
    have := (List.mem_filter.1 hin).2
    rw [hs] at this; cases this
  · have hin : (c, v) ∈ es.filter fun e => !seenB vis e.1 := by
      rw [List.mem_filter]
      refine ⟨hmem, ?_⟩
      cases hs : seenB vis (c, v).1 with
      | true => exact absurd (seenB_mem hkc hs) hkv
      | false => rfl
    rw [hf] at hin
    refine ⟨_, fin true [c, .lit x] _, rfl, List.mem_map.2 ⟨(c, v), hin, ?_⟩, keepE_tags (without_tags ht)⟩
    simp only [hkc, Option.getD_some]
def ordStep (run : Nat → Code → St → Option (Exit × St)) (n : Nat) (x y : Code) (s : St) : Option (Exit × St) := match run n y s with
  | some (.normal, σ1) => run n (.loop x) σ1
  | q => q
def ordX (run : Nat → Code → St → Option (Exit × St)) (n : Nat) (x : Code) (σ : St) : Option (Exit × St) := match x with
  | .seq (.region id ops false) y => if dstsOk ops n ops.toList [] then match nextsX ops σ with
    | some (s :: l) => match ordStep run n (.seq (.region id ops false) y) y s with
      | some r => foldR r (l.map (ordStep run n (.seq (.region id ops false) y) y))
      | none => none
    | _ => none else none
  | _ => none
theorem ordX_spec {run : Nat → Code → St → Option (Exit × St)} {x : Code} {σ : St} {m : Exit × St} (h : ordX run n x σ = some m) :
    ∃ id ops y l, x = .seq (.region id ops false) y ∧ dstsOk ops n ops.toList [] = true ∧ nextsX ops σ = some l ∧ ∀ s ∈ l, ∃ q, ordStep run n x y s = some q ∧ Wk q m := by
  unfold ordX at h
  split at h
  case h_2 => cases h
  rename_i x id ops y
  split at h
  case isFalse => cases h
  rename_i hd
  split at h
  case h_2 => cases h
  rename_i s l hn
  split at h
  case h_2 => cases h
  rename_i r hr
  obtain ⟨h1, h2⟩ := foldR_w h
  refine ⟨id, ops, y, _, rfl, hd, hn, fun s' hs' => ?_⟩
  rcases List.mem_cons.1 hs' with rfl | hs'
  · exact ⟨r, hr, h1⟩
  · obtain ⟨q, hq, hw⟩ := h2 _ (List.mem_map.2 ⟨s', hs', rfl⟩)
    exact ⟨q, hq, hw⟩
end
end Go.Ab

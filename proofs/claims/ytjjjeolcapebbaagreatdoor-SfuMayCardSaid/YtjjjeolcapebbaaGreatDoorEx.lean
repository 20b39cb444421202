/- Runs on fixed data, reckoned: regions. No condition: over any program. -/
import Derived.Test.YtjjjeolcapebbaaGreatDoorEw
namespace Go.Ab
section
variable {P : Program} {ty : TyTab} {Γ : Gam}

theorem tmpIs_at {A : Env} {t : Nat} {p : Bool} (h : ent A t = some (none, .lit (.bool p))) : tmpIs A t p := by unfold tmpIs; rw [h]
theorem opX_spec (hf : Free Γ) {A : Env} {M : List AObj} {o : Oper} {av : AV} {M' : Option (List AObj)} (h : opX ty Γ A M o = some (av, M')) : ∃ out, evOp ty Γ A [] M o = some out ∧ out.obl ∧ out.av = av ∧ out.M = M' := by
  unfold opX at h
  split at h
  · rename_i out he
    split at h
    · rename_i hb
      cases h
      exact ⟨out, he, obB_spec hf he hb, rfl, rfl⟩
    · cases h
  · cases h
theorem pickX_spec {A : Env} {t : Nat} {a b : Operand} {av : AV} {M' : Option (List AObj)} (h : pickX A t a b = some (av, M')) :
    M' = none ∧ ((ent A t = some (none, .lit (.bool true)) ∧ evX A [] a = some av) ∨ (ent A t = some (none, .lit (.bool false)) ∧ evX A [] b = some av)) := by
  unfold pickX at h
  split at h
  · rename_i he
    obtain ⟨v, hv, e⟩ := Option.map_eq_some_iff.1 h
    cases e
    exact ⟨rfl, .inl ⟨he, hv⟩⟩
  · rename_i he
    obtain ⟨v, hv, e⟩ := Option.map_eq_some_iff.1 h
    cases e
    exact ⟨rfl, .inr ⟨he, hv⟩⟩
  · cases h

theorem oneX_G (hf : Free Γ) {ops : Array Oper} {A : Env} {M : List AObj} {o : Oper} {av : AV} {M' : Option (List AObj)} (h : oneX ty Γ ops A M o = some (av, M')) :
    ∃ D p, oneG ty Γ ops D A M o = some (p, none, av, M') ∧ p := by
  unfold oneX at h
  split at h
  · cases h
  · rename_i ht
    unfold doX at h
    split at h
    · rename_i t a b ho
      obtain ⟨rfl, ⟨he, hv⟩ | ⟨he, hv⟩⟩ := pickX_spec h
      · exact ⟨[(t, true)], tmpIs A t true, by unfold oneG; rw [ht]; simp only [ho]; rw [if_pos (by simp), hv, Option.map_some], tmpIs_at he⟩
      · exact ⟨[(t, false)], tmpIs A t false, by unfold oneG; rw [ht]; simp only [ho]; rw [if_neg (by simp), if_pos (by simp), hv, Option.map_some], tmpIs_at he⟩
    · rename_i ho
      obtain ⟨out, h1, h2, rfl, rfl⟩ := opX_spec hf h
      refine ⟨[], out.obl, ?_, h2⟩
      unfold oneG
      rw [ht]
      simp only
      rw [h1]; rfl
  · rename_i t b ht
    split at h
    · rename_i hu
      cases h
      exact ⟨[], True, by unfold oneG; rw [ht]; simp only; rw [if_pos hu], trivial⟩
    · rename_i hu
      split at h
      · rename_i p he
        split at h
        · rename_i hpb
          have hpb : p = b := by simpa using hpb
          subst hpb
          unfold doX at h
          split at h
          · rename_i u x y ho
            obtain ⟨rfl, ⟨hue, hv⟩ | ⟨hue, hv⟩⟩ := pickX_spec h
            · exact ⟨[(t, p), (u, true)], tmpIs A t p ∧ tmpIs A u true, by unfold oneG; rw [ht]; simp only; rw [if_neg hu, if_pos (by simp)]; simp only [ho]; rw [if_pos (by simp), hv, Option.map_some], tmpIs_at he, tmpIs_at hue⟩
            · have hn : ¬ (u = t ∧ true = p) := by
                rintro ⟨rfl, rfl⟩
                rw [he] at hue; cases hue
              refine ⟨[(t, p), (u, false)], tmpIs A t p ∧ tmpIs A u false, ?_, tmpIs_at he, tmpIs_at hue⟩
              have hc : ([(t, p), (u, false)] : List (Nat × Bool)).contains (u, true) = false := by
                simp only [List.contains_cons, List.contains_nil, Bool.or_false, Bool.or_eq_false_iff]
                exact ⟨Bool.eq_false_iff.2 fun e => hn (by have := eq_of_beq e; cases this; exact ⟨rfl, rfl⟩), Bool.eq_false_iff.2 fun e => by have := eq_of_beq e; cases this⟩
              unfold oneG
              rw [ht]
              simp only
              rw [if_neg hu, if_pos (by simp)]
              simp only [ho]
              rw [if_neg (by rw [hc]; decide), if_pos (by simp), hv, Option.map_some]
          · rename_i ho
            obtain ⟨out, h1, h2, rfl, rfl⟩ := opX_spec hf h
            refine ⟨[(t, p)], tmpIs A t p ∧ out.obl, ?_, tmpIs_at he, h2⟩
            unfold oneG
            rw [ht]
            simp only
            rw [if_neg hu, if_pos (by simp)]
            rw [h1]; rfl
        · rename_i hpb
          cases h
          have hpb : p = !b := by cases p <;> cases b <;> simp_all
          subst hpb
          refine ⟨[(t, !b)], tmpIs A t (!b), ?_, tmpIs_at he⟩
          unfold oneG
          rw [ht]
          simp only
          rw [if_neg hu, if_neg (by cases b <;> simp), if_pos (by simp)]
      · cases h

theorem run_textX (hty : TyOk P ty) (hΓ : GamOk P Γ) (hf : Free Γ) {ops : Array Oper} {Q : Exit → Act → World → Prop} (n : Nat) : ∀ (l : List Oper) {A A' : Env} {M M' : List AObj} {gs : List Nat} {g : G} {a : Act},
    runX ty Γ ops l A M = some (A', M') → dstsOk ops n l gs = true → tagsIn A gs → a.tmps.size = n → g.M = M → Sim g → EnvRel g A a.tmps →
    (∀ a' (g' : G), a'.tmps.size = n → a'.defers = a.defers → g'.M = M' → g'.X = g.X → Sim g' → Keep g g' → EnvRel g' A' a'.tmps → Q .normal a' g'.w) → wpList P ops Q l a g.w
  | [], A, A', M, M', gs, g, a, h, _, _, hn, hg, sm, hA, hQ => by
    cases h
    exact hQ a g hn rfl hg rfl sm (Keep.refl g) hA
  | o :: r, A, A', M, M', gs, g, a, h, hds, htg, hn, hg, sm, hA, hQ => by
    unfold runX at h
    split at h
    · rename_i av M1 hc0
      obtain ⟨D, p, hc, hob1⟩ := oneX_G hf hc0
      subst hg
      obtain ⟨tg, h1, htag⟩ := oneG_tag hc
      unfold dstsOk at hds
      simp only [Bool.and_eq_true] at hds
      obtain ⟨hd1, hd2⟩ := hds
      rw [h1] at hd2
      have hfree : ∀ d, o.dst = some d → d < a.tmps.size ∧ free A d = true ∧ ∀ τ, (none : Tag) = some τ → τ.1 ≠ d := fun d hd => by
        rw [hd] at hd1 hd2
        simp only [Bool.and_eq_true, decide_eq_true_eq, Bool.not_eq_true'] at hd1
        exact ⟨by rw [hn]; exact hd1.1, free_of htg hd1.2, fun τ hτ => by cases hτ⟩
      have key : ∀ v (g' : G), Sim g' → Keep g g' → g'.X = g.X → g'.M = M1.getD g.M → TagR a.tmps v (R g' av v) none →
          wpList P ops Q r (a.put o.dst v) g'.w := fun v g' s' k hx hM hr => by
        have hds' : ∃ gs', dstsOk ops n r gs' = true ∧ tagsIn (putE A o.dst none av) gs' := by
          have hput : ∀ gs', (∀ x ∈ gs, x ∈ gs') → tagsIn (putE A o.dst none av) gs' := fun gs' hsub e he τ hτ => by
            cases hod : o.dst with
            | none => rw [hod] at he; exact hsub _ (htg e he τ hτ)
            | some d =>
              rw [hod] at he
              rcases List.mem_cons.1 he with rfl | he
              · cases hτ
              · exact hsub _ (htg e he τ hτ)
          cases hct : tg with
          | none =>
            rw [hct] at hd2
            exact ⟨gs, hd2, hput gs fun _ h => h⟩
          | some σ =>
            rw [hct] at hd2
            simp only [Bool.and_eq_true] at hd2
            exact ⟨σ.1 :: gs, hd2.2, hput _ fun _ h => List.mem_cons_of_mem _ h⟩
        obtain ⟨gs', hgs1, hgs2⟩ := hds'
        refine run_textX hty hΓ hf n r h hgs1 hgs2 (by rw [size_put]; exact hn) hM s' ((hA.keep k).put hfree hr) fun a' g'' q1 q2 q3 qx q4 q5 q6 => ?_
        exact hQ a' g'' q1 (by rw [q2, defers_put]) q3 (qx.trans hx) q4 (k.trans q5) q6
      have := oneG_spec (Q := Q) hty hΓ hc hob1 sm hA key
      unfold wpList
      exact this
    · cases h
theorem runX_ent {ops : Array Oper} : ∀ {l : List Oper} {A A' : Env} {M M' : List AObj}, runX ty Γ ops l A M = some (A', M') → ∀ t, t ∉ dstL l → ent A' t = ent A t
  | [], A, A', M, M', h, t, _ => by cases h; rfl
  | o :: r, A, A', M, M', h, t, ht => by
    unfold runX at h
    split at h
    · rename_i av M1 hc
      unfold dstL at ht
      cases hd : o.dst with
      | none =>
        rw [hd] at ht
        have := runX_ent h t ht
        rw [this, hd]; rfl
      | some d =>
        rw [hd] at ht
        simp only [List.mem_cons, not_or] at ht
        have := runX_ent h t ht.2
        rw [this, hd]
        simp only [putE, ent, show ¬ d = t from fun e => ht.1 e.symm, if_false]
    · cases h
theorem keepE_tags {A1 : Env} : ∀ {keep : List Nat} {A0 : Env}, noTags A0 = true → noTags (keepE A1 keep A0) = true
  | [], _, h => h
  | t :: r, A0, h => by
    unfold keepE
    split
    · unfold noTags; simp only [List.all_cons, Option.isNone_none, Bool.true_and]; exact keepE_tags h
    · exact keepE_tags h
theorem without_tags {ds : List Nat} : ∀ {A : Env}, noTags A = true → noTags (without ds A) = true
  | [], h => h
  | e :: r, h => by
    unfold noTags at h
    simp only [List.all_cons, Bool.and_eq_true] at h
    unfold without
    split
    · exact without_tags h.2
    · unfold noTags; simp only [List.all_cons, Bool.and_eq_true]; exact ⟨h.1, without_tags h.2⟩
end
end Go.Ab

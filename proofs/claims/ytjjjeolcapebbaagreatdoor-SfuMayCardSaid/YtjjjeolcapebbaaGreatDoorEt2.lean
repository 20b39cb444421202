/- Runs on fixed data: a range over a map whose entries come in whatever order, of which each leaves all as it was. No condition: over any program. -/
import Derived.Test.YtjjjeolcapebbaaGreatDoorEh
namespace Go.Ab
section
variable {P : Program} {n B : Nat}

theorem curR_vis {t u : Nat} {es : List (AV × AV)} {vis vis' : List Value} {c : Option Value} : ∀ (M : List AObj) (i : Nat), curR t (M.set i (.mapr es vis c u)) = curR t (M.set i (.mapr es vis' c u))
  | [], _ => rfl
  | o :: r, 0 => by cases c <;> rfl
  | o :: r, i + 1 => by
    simp only [List.set_cons_succ]
    unfold curR
    rw [curR_vis r i]
theorem entry_vis {u : Nat} {es : List (AV × AV)} {vis vis' : List Value} {c : Option Value} {M : List AObj} {i : Nat} {x : AV} : entry2Out (M.set i (.mapr es vis c u)) x = entry2Out (M.set i (.mapr es vis' c u)) x := by
  unfold entry2Out entryKOut entryOut
  simp only [fun t => curR_vis (t := t) (u := u) (es := es) (vis := vis) (vis' := vis') (c := c) M i]

theorem entry_obl {M : List AObj} {x : AV} {out : Out} (h : entry2Out M x = some out) : out.obl := by
  unfold entry2Out at h
  split at h
  · split at h
    · unfold entryKOut at h
      repeat' split at h
      all_goals first | (cases h; trivial) | cases h
    · unfold entryOut at h
      repeat' split at h
      all_goals first | (cases h; trivial) | cases h
  · cases h
def subB (A : Env) (A0 : Env) : Bool := A0.all fun e => e.tag.isNone && match ent A e.t with
  | some (none, av) => avE 12 av e.av
  | _ => false
theorem subB_spec {A : Env} : ∀ {A0 : Env}, subB A A0 = true → subE A A0
  | [], _ => trivial
  | ⟨t, tag, av⟩ :: r, h => by
    unfold subB at h
    simp only [List.all_cons, Bool.and_eq_true, Option.isNone_iff_eq_none] at h
    obtain ⟨⟨h1, h2⟩, h3⟩ := h
    subst h1
    refine ⟨?_, subB_spec h3⟩
    split at h2
    · rename_i av' he
      simp only [he]
      rw [avE_eq h2]
      exact .refl _
    · cases h2
theorem subB_ent {A : Env} {A0 : Env} (h : subB A A0 = true) : ∀ e ∈ A0, ent A e.t = some (none, e.av) := fun e he => by
  have q := List.all_eq_true.1 h e he
  simp only [Bool.and_eq_true] at q
  obtain ⟨_, q⟩ := q
  split at q
  · rename_i av hx; rw [hx, avE_eq q]
  · cases q
theorem subB_tags {A : Env} {A0 : Env} (h : subB A A0 = true) : noTags A0 = true := List.all_eq_true.2 fun e he => by
  have q := List.all_eq_true.1 h e he
  simp only [Bool.and_eq_true] at q
  exact q.1

/-- What a loop sets. -/
def codeD : Code → List Nat
  | .seq x y => codeD x ++ codeD y
  | .cond _ x y => codeD x ++ codeD y
  | .block _ x => codeD x
  | .loop x => codeD x
  | .region _ ops _ => dstL ops.toList
  | _ => []

/-- A round, from the entry on, with the map set aside. -/
def anyOne (T : EvT) (run : Nat → Code → St → Option (Exit × St)) (n : Nat) (A0 : Env) (M : List AObj) (i : Nat) (es : List (AV × AV)) (u d1 d2 de id2 : Nat) (eops : Array Oper) (ers : List Oper) (rest : Code) (c : AV) : Bool :=
  match kval c with
  | some k => match entry2Out (M.set i (.mapr es [k] (some k) u)) (.it u) with
    | some out => out.M.isNone && match runX T.ty (callX T run) eops ers (putE (keepE [⟨d2, none, .lit (.bool true)⟩] [d2] (without [d1, d2] A0)) (some de) none out.av) (M.set i .dead) with
      | some (A', M') => match run n rest ⟨keepE A' (dstL eops.toList) (without (dstL eops.toList) (keepE [⟨d2, none, .lit (.bool true)⟩] [d2] (without [d1, d2] A0))), M'⟩ with
        | some (ex, σ2) => (match ex with
            | .normal => true
            | .exit j => j == id2
            | _ => false) && subB σ2.A A0 && memE σ2.M (M.set i .dead)
        | none => false
      | none => false
    | none => false
  | none => false
def anyX (T : EvT) (run : Nat → Code → St → Option (Exit × St)) (n : Nat) (x : Code) (σ : St) : Option (Exit × St) := match x with
  | .seq (.region _ ops false) (.seq (.cond (.tmp c2) .skip (.exit id)) (.block id2 (.seq (.region _ eops false) rest))) => match ops.toList, eops.toList with
    | [o1, o2], oe :: ers => match o1.op, o1.guard, o1.dst, o2.op, o2.guard, o2.dst with
      | .next (.tmp t) false, none, some d1, .extract (.tmp d3) 0, none, some d2 => match oe.op, oe.guard, oe.dst, ent σ.A t with
        | .entry (.tmp t2), none, some de, some (none, .it u) => if d3 = d1 ∧ c2 = d2 ∧ t2 = t ∧ d2 ≠ d1 ∧ t ≠ d1 ∧ t ≠ d2 then match mapAt u σ.M with
          | some i => match σ.M[i]? with
            | some (.mapr es [] none u') =>
              if u' = u ∧ 2 ≤ es.length ∧ (es.all fun e => (kval e.1).isSome && anyOne T run n (without (codeD x) σ.A) σ.M i es u d1 d2 de id2 eops ers rest e.1) = true ∧ dstsOk ops n ops.toList [] = true ∧ dstsOk eops n eops.toList [] = true ∧
                  subB σ.A (without (codeD x) σ.A) = true ∧ subB (without (codeD x) σ.A) [⟨t, none, .it u⟩] = true then
                some (.exit id, ⟨keepE [⟨d2, none, .lit (.bool false)⟩] [d2] (without [d1, d2] (without (codeD x) σ.A)), σ.M.set i (.mapo es)⟩)
              else none
            | _ => none
          | none => none else none
        | _, _, _, _ => none
      | _, _, _, _, _, _ => none
    | _, _ => none
  | _ => none

theorem anyBody {T : EvT} (hT : EvOk P T) {run : Nat → Code → St → Option (Exit × St)} (hr : RunOk P run) {id u i t de : Nat} {eops : Array Oper} {oe : Oper} {ers : List Oper} {rest : Code} {A A' : Env} {M M' : List AObj} {es : List (AV × AV)} {vis : List Value} {cur : Option Value} {out : Out} {e : Exit} {σ2 : St}
    (hM : M[i]? = some (.mapr es vis cur u)) (ho : eops.toList = oe :: ers) (q1 : oe.op = .entry (.tmp t)) (q2 : oe.guard = none) (q3 : oe.dst = some de) (het : ent A t = some (none, .it u)) (hout : entry2Out M (.it u) = some out) (hoM : out.M = none)
    (hds : dstsOk eops n eops.toList [] = true) (ht : noTags A = true) (hrun : runX T.ty (callX T run) eops ers (putE A (some de) none out.av) (M.set i .dead) = some (A', M'))
    (hrest : run n rest ⟨keepE A' (dstL eops.toList) (without (dstL eops.toList) A), M'⟩ = some (e, σ2)) (hd : σ2.M[i]? = some .dead) :
    AWp P n B (.seq (.region id eops false) rest) (fun e' σ'' => e' = e ∧ σ'' = ⟨σ2.A, σ2.M.set i (.mapr es vis cur u)⟩) ⟨A, M⟩ := by
  have hΓ := callX_ok hT hr
  have hf : Free (callX T run) := callX_free hT
  intro g0 g a at_
  have hgM : g.M = M := at_.mem
  subst hgM
  have htags : tagsIn A [] := fun e he τ hτ => by
    have := List.all_eq_true.1 ht e he
    simp [hτ] at this
  have htag : tagOf eops oe = some none := by unfold tagOf; rw [q2]
  have hds' := hds
  rw [ho] at hds'
  unfold dstsOk at hds'
  rw [q3, htag] at hds'
  simp only [Bool.and_eq_true, decide_eq_true_eq] at hds'
  obtain ⟨⟨hd1, _⟩, hds2⟩ := hds'
  have hob : out.obl := entry_obl hout
  have hev : evOp T.ty (callX T run) A [] g.M oe = some out := by
    have hx : evX A [] (.tmp t) = some (.it u) := by simp [evX, getE, het, Ab.vis]
    unfold evOp
    rw [q1]
    show (evX A [] (.tmp t)).bind (fun a => entry2Out g.M a) = some out
    rw [hx]
    exact hout
  have hone : oneG T.ty (callX T run) eops [] A g.M oe = some (out.obl, none, out.av, none) := by
    unfold oneG
    rw [htag]
    simp only [q1]
    rw [hev]
    simp [hoM]
  refine wp_seq (wp_region_list ?_)
  rw [ho]
  unfold wpList
  refine oneG_spec hT.ty hΓ hone hob at_.sim at_.env fun v g1 s1 k1 x1 m1 r1 => ?_
  simp only [Option.getD_none] at m1
  have hM1 : g1.M[i]? = some (.mapr es vis cur u) := by rw [m1]; exact hM
  have kh := hid_keep hM1
  have sh := hid_sim hM1 s1
  have hfree : ∀ d, oe.dst = some d → d < a.tmps.size ∧ free A d = true ∧ ∀ τ, (none : Tag) = some τ → τ.1 ≠ d := fun d hd => by
    rw [q3] at hd
    cases hd
    exact ⟨by rw [at_.size]; exact hd1, free_of htags (by simp), fun τ hτ => by cases hτ⟩
  have hA1 : EnvRel g1 (putE A oe.dst none out.av) (a.put oe.dst v).tmps := (EnvRel.keep k1 at_.env).put hfree r1
  rw [q3] at hA1 ⊢
  refine run_textX hT.ty hΓ hf n ers hrun hds2 (fun e he τ hτ => ?_) (by rw [size_put]; exact at_.size) (g := hid g1 i (.mapr es vis cur u)) (by simp only [hid, m1]) sh (EnvRel.keep kh hA1) fun a' g2 r1 r2 r3 rx r4 r5 r6 => ?_
  · rcases List.mem_cons.1 he with rfl | he
    · cases hτ
    · exact htags e he τ hτ
  have hA2 : EnvRel g2 (keepE A' (dstL eops.toList) (without (dstL eops.toList) A)) a'.tmps := by
    refine keepE_rel r6 ?_ (dstL eops.toList)
    intro t' tag av he
    rw [without_ent] at he
    split at he
    · cases he
    · rename_i hc
      refine r6 t' tag av ?_
      have hc' : t' ∉ de :: dstL ers := by
        have : dstL eops.toList = de :: dstL ers := by rw [ho, dstL, q3]
        rw [this] at hc
        simpa using hc
      rw [runX_ent hrun t' (fun h => hc' (List.mem_cons_of_mem _ h)), putE, ent, if_neg (fun h => hc' (by rw [← h]; exact List.mem_cons_self))]
      exact he
  have hw := hr n (hid g1 i (.mapr es vis cur u)).M.length rest _ e σ2 hrest (keepE_tags (without_tags ht)) (hid g1 i (.mapr es vis cur u)) g2 a' ⟨rfl, rx, r5, r3, r4, hA2, r1, by rw [r2, defers_put]; exact at_.defers⟩
  refine wp_mono hw fun e' a3 w3 ⟨σ3, g3, ⟨h1, h2, h3⟩, h4, at3⟩ => ?_
  subst h1 h2 h4
  obtain ⟨s4, k4, k04⟩ := sho_all hM1 s1 at3.keep at3.sim at3.ax (by rw [at3.mem]; exact hd)
  refine ⟨_, sho g1 g3 i (.mapr es vis cur u), ⟨rfl, rfl⟩, rfl, at_.base, x1.trans at_.ax, (at_.keep.trans k1).trans k4, by simp only [sho]; rw [at3.mem], s4, fun t' tag av he => ?_, at3.size, at3.defers⟩
  have q := at3.env t' tag av he
  cases tag with
  | none => exact R.keep0 k04 q
  | some τ => exact ⟨fun hy => (q.1 hy).keep0 k04, q.2⟩

theorem any_ok {T : EvT} (hT : EvOk P T) {run : Nat → Code → St → Option (Exit × St)} (hr : RunOk P run) {x : Code} {σ σ' : St} {e : Exit} (h : anyX T run n x σ = some (e, σ')) (ht : noTags σ.A = true) :
    AWp P n B (.loop x) (fun e' σ'' => e' = e ∧ σ'' = σ' ∧ noTags σ'.A = true) σ := by
  have hΓ := callX_ok hT hr
  unfold anyX at h
  split at h
  case h_2 => cases h
  rename_i x r1 ops c2 id id2 r2 eops rest
  split at h
  case h_2 => cases h
  rename_i o1 o2 oe ers hops heops
  split at h
  case h_2 => cases h
  rename_i t d1 d3 d2 p1 p2 p3 p4 p5 p6
  split at h
  case h_2 => cases h
  rename_i t2 de u p7 p8 p9 p10
  split at h
  case isFalse => cases h
  rename_i hdd
  obtain ⟨rfl, rfl, rfl, hne, ht1, ht2⟩ := hdd
  split at h
  case h_2 => cases h
  rename_i i hi
  split at h
  case h_2 => cases h
  rename_i es u' hM
  split at h
  case isFalse => cases h
  rename_i hc
  obtain ⟨rfl, hl2, hall, hd1, hd2, hs1, hs2⟩ := hc
  cases h
  obtain ⟨A, M⟩ := σ
  simp only at hs1 hs2 hall hM p10 hi ⊢
  generalize hA0 : without (codeD _) A = A0 at hs1 hs2 hall ⊢
  have htA0 : noTags A0 = true := subB_tags hs1
  have hent : ent A0 t2 = some (none, .it u') := by
    have := subB_ent hs2 ⟨t2, none, .it u'⟩ (by simp)
    exact this
  have hk : ∀ p ∈ es, ∃ k, kval p.1 = some k := fun p hp => by
    have := List.all_eq_true.1 hall p hp
    simp only [Bool.and_eq_true] at this
    exact Option.isSome_iff_exists.1 this.1
  have hone : ∀ p ∈ es, anyOne T run n A0 M i es u' d3 c2 de id2 eops ers rest p.1 = true := fun p hp => by
    have := List.all_eq_true.1 hall p hp
    simp only [Bool.and_eq_true] at this
    exact this.2
  have hil := get_lt hM
  have hset : ∀ (vis : List Value) (cur : Option Value), (M.set i (.mapr es vis cur u'))[i]? = some (.mapr es vis cur u') := fun vis cur => by simp [hil]
  have hdl : dstL ops.toList = [d3, c2] := by rw [hops]; simp [dstL, p3, p6]
  have hrun : ∀ (b : Bool) (tl : List AV) (M1 : List AObj), runR T.ty (callX T run) ops [o2] (⟨d3, none, .tup (.lit (.bool b) :: tl)⟩ :: A0) M1 =
      some ([⟨⟨d3, none, .tup (.lit (.bool b) :: tl)⟩ :: A0, M1, [], none, { av := .lit (.bool b) }⟩], ⟨c2, none, .lit (.bool b)⟩ :: ⟨d3, none, .tup (.lit (.bool b) :: tl)⟩ :: A0, M1) := fun b tl M1 => by
    simp [runR, recOf, tagOf, p4, p5, p6, evOp, evX, getE, ent, Ab.vis, extractOut, putE]
  have fin : ∀ (b : Bool) (tl : List AV) (M0 M1 : List AObj), regE [c2] [] ops.toList ⟨A0, M0⟩ ⟨keepE [⟨c2, none, .lit (.bool b)⟩] [c2] (without [d3, c2] A0), M1⟩
      (runR T.ty (callX T run) ops [o2] (⟨d3, none, .tup (.lit (.bool b) :: tl)⟩ :: A0) M1) := fun b tl M0 M1 => by
    rw [hrun]
    refine ⟨⟨trivial, trivial⟩, ?_, rfl⟩
    rw [hdl]
    simp [keepE, ent]
  have hevc : ∀ (b : Bool) (M1 : List AObj), evX (St.mk (keepE [⟨c2, none, .lit (.bool b)⟩] [c2] (without [d3, c2] A0)) M1).A [] (.tmp c2) = some (.lit (.bool b)) := fun b M1 => by
    simp [evX, getE, keepE, ent, Ab.vis]
  intro g0 g a at_
  have hB : B ≤ M.length := by
    have h1 := at_.keep.len
    rw [at_.base, at_.mem] at h1
    exact h1
  have hbM : belM M.length M := by
    have := at_.sim.bel
    rw [at_.mem] at this
    exact this
  have hbA : belE M.length A0 := fun e he => by
    have := at_.env e.t none e.av (subB_ent hs1 e he)
    have := R.bel this
    rw [at_.mem] at this
    exact this
  have hbE : ∀ (vis : List Value) (cur : Option Value), belM M.length (M.set i (.mapr es vis cur u')) := fun vis cur o ho => by
    rcases List.mem_or_eq_of_mem_set ho with q | q
    · exact hbM o q
    · subst q
      have := hbM _ (List.mem_of_getElem? hM)
      exact this
  refine (AWp.wmem (Q := fun e' τ => e' = .exit id ∧ ∃ vis cur, τ = ⟨keepE [⟨c2, none, .lit (.bool false)⟩] [c2] (without [d3, c2] A0), M.set i (.mapr es vis cur u')⟩) ?_ ?_ : AWp P n B _ _ _) g0 g a at_
  case refine_2 =>
    rintro e' σ1 ⟨rfl, vis, cur, rfl⟩
    refine ⟨_, .toSet (hset vis cur) (.mapr _ _ _ _), rfl, ?_, keepE_tags (without_tags htA0)⟩
    simp only [List.set_set]
  refine AWp.loop' (fun q τ => ∃ vis cur, τ = ⟨A0, M.set i (.mapr es vis cur u')⟩ ∧ vis.Nodup ∧ (∀ v ∈ vis, v ∈ es.map fun p => (kval p.1).getD undef) ∧ vis.length + q = es.length + 1) (es.length + 1) M.length ⟨A0, M.set i (.mapr es [] none u')⟩
    ⟨hB, Nat.le_refl _, subB_spec hs1, hbA, ?_, hbE _ _⟩ ⟨[], none, rfl, .nil, fun _ h => (by cases h), by simp⟩ ?_
  · have : M.set i (.mapr es [] none u') = M := by
      rw [← get_of_some hM, List.set_getElem_self]
    simp only [List.take_length, this]
    exact .refl _
  rintro q τ ⟨vis, cur, rfl, hnd, hsub, hlen⟩
  refine AWp.seq (AWp.regNextK hT.ty hΓ hops p1 p2 p3 (keep := [c2]) (dead := []) hd1 htA0 hent (hset vis cur) hk (fun _ => ⟨_, fin false [] _ _, ?_⟩) fun c k v x hkc hkv hmem => ⟨_, fin true [c, .lit x] _ _, ?_⟩)
  · exact AWp.seq (AWp.cond (hevc false _) (fun h => by cases h) fun _ => AWp.exit ⟨rfl, vis, cur, rfl⟩)
  refine AWp.seq (AWp.cond (hevc true _) (fun _ => AWp.skip ?_) fun h => by cases h)
  simp only [List.set_set]
  refine AWp.block ?_
  have h1 := hone (c, v) hmem
  unfold anyOne at h1
  simp only [hkc] at h1
  split at h1
  case h_2 => cases h1
  rename_i out hout
  simp only [Bool.and_eq_true, Option.isNone_iff_eq_none] at h1
  obtain ⟨hoM, h1⟩ := h1
  split at h1
  case h_2 => cases h1
  rename_i A' M' hrx
  split at h1
  case h_2 => cases h1
  rename_i ex σ2 hrest
  simp only [Bool.and_eq_true] at h1
  obtain ⟨⟨hex, hsubA⟩, hmemE⟩ := h1
  obtain ⟨N, hN⟩ := memE_spec hmemE
  have hdead : σ2.M[i]? = some .dead := by rw [hN, List.getElem?_append_left (by simpa using hil)]; simp [hil]
  have hres : σ2.M.set i (.mapr es (k :: vis) (some k) u') = M.set i (.mapr es (k :: vis) (some k) u') ++ N := by
    rw [hN, List.set_append_left _ _ (by simpa using hil), List.set_set]
  have hentA1 : ent (keepE [⟨c2, none, .lit (.bool true)⟩] [c2] (without [d3, c2] A0)) t2 = some (none, .it u') := by
    simp only [keepE, ent, if_true]
    rw [if_neg (fun h => ht2 h.symm), without_ent, if_neg (by simp [ht1, ht2])]
    exact hent
  refine AWp.mono (anyBody hT hr (M := M.set i (.mapr es (k :: vis) (some k) u')) (hset _ _) heops p7 p8 p9 hentA1 (entry_vis.trans hout) hoM hd2 (keepE_tags (without_tags htA0)) (by rw [List.set_set]; exact hrx) hrest hdead) fun e' σ'' q2 => ?_
  obtain ⟨rfl, rfl⟩ := q2
  have hnd' : (k :: vis).Nodup := List.nodup_cons.2 ⟨hkv, hnd⟩
  have hsub' : ∀ v ∈ k :: vis, v ∈ es.map fun p => (kval p.1).getD undef := fun v hv => by
    rcases List.mem_cons.1 hv with rfl | hv
    · exact List.mem_map.2 ⟨_, hmem, by simp [hkc]⟩
    · exact hsub v hv
  have hle := nodup_le hnd' hsub'
  simp only [List.length_cons, List.length_map] at hle
  have hnext : ∃ k' m σ'', k' < q ∧ Conv B m ⟨σ2.A, σ2.M.set i (.mapr es (k :: vis) (some k) u')⟩ σ'' ∧ ∃ vis cur, σ'' = ⟨A0, M.set i (.mapr es vis cur u')⟩ ∧ vis.Nodup ∧ (∀ v ∈ vis, v ∈ es.map fun p => (kval p.1).getD undef) ∧ vis.length + k' = es.length + 1 := by
    refine ⟨q - 1, M.length, _, by omega, ⟨hB, ?_, subB_spec hsubA, hbA, ?_, hbE _ _⟩, k :: vis, some k, rfl, hnd', hsub', by simp only [List.length_cons]; omega⟩
    · rw [hres]; simp
    · rw [hres, List.take_append_of_le_length (by simp), List.take_of_length_le (by simp)]
      exact .refl _
  cases e' with
  | normal => exact hnext
  | exit j =>
    simp only [beq_iff_eq] at hex
    simp only [blockS, hex, if_true]
    exact hnext
  | _ => cases hex
end
end Go.Ab

/- Add and Remove: the outlet's and the reference's are the same. No condition. -/
import Derived.Test.YtnoeflijefijcaaYy
namespace Go.Proofs
open Go.Ab

/-! ### Putting one in its place -/
def insG {α : Type} (lt : α → Bool) (x : α) : List α → List α
  | [] => [x]
  | f :: r => if lt f = true then x :: f :: r else f :: insG lt x r
theorem insG_perm {α : Type} (lt : α → Bool) (x : α) : ∀ l, (insG lt x l).Perm (x :: l)
  | [] => .refl _
  | f :: r => by
    unfold insG
    split
    · exact .refl _
    · exact ((insG_perm lt x r).cons f).trans (List.Perm.swap _ _ _)
theorem insG_map {α β : Type} {lt : α → Bool} {lt' : β → Bool} (g : α → β) (h : ∀ f, lt' (g f) = lt f) (x : α) : ∀ l : List α, insG lt' (g x) (l.map g) = (insG lt x l).map g
  | [] => rfl
  | f :: r => by
    simp only [List.map_cons, insG, h]
    split
    · rfl
    · rw [insG_map g h x r]; rfl
theorem insG_rise {id : Int} : ∀ {l : List Int}, l.Pairwise (· < ·) → id ∉ l → (insG (fun i => ltI id i) id l).Pairwise (· < ·)
  | [], _, _ => by simp [insG]
  | i :: r, h, hn => by
    have h' := h
    rw [List.pairwise_cons] at h
    simp only [List.mem_cons, not_or] at hn
    unfold insG
    by_cases hi : id < i
    · rw [if_pos (ltI_t hi)]
      rw [List.pairwise_cons]
      refine ⟨fun a ha => ?_, h'⟩
      rcases List.mem_cons.1 ha with rfl | ha
      · exact hi
      · exact Int.lt_trans hi (h.1 a ha)
    · rw [if_neg (by rw [ltI_f hi]; decide)]
      rw [List.pairwise_cons]
      refine ⟨fun a ha => ?_, insG_rise h.2 hn.2⟩
      rcases List.mem_cons.1 ((insG_perm _ _ _).mem_iff.1 ha) with rfl | ha
      · omega
      · exact h.1 a ha

theorem ins_loop {α T : Type} [Inhabited α] {l : List α} {lt : α → Bool} {x : α} {w : Nat} (hw : w ≤ 64) (hl : l.length ≤ 1000000) {body : Int × Bool × List α → Option (Fl (Int × Bool × List α) (Fl (Bool × List α) T))}
    (hb : ∀ s, body s = bif ltI s.1 (lenL l) then (need (InB s.1 (lenL l)) <| ((bif (pickB (notB s.2.1) (lt (nthI l s.1)) false) then (need (AppB (lenL s.2.2) 1 w) <| some (.go (true, (appL s.2.2 [x]))))
      else some (.go (s.2.1, s.2.2)) : Option (Fl (Bool × List α) (Fl (Int × Bool × List α) (Fl (Bool × List α) T)))).bind fun f => flC f fun (v : Bool × List α) => need (AppB (lenL v.2) 1 w) <|
      some (.go ((addI .i64 s.1 1), v.1, (appL v.2 [(nthI l s.1)]))))) else some (.out (.go (s.2.1, s.2.2)))) :
    loopF body (0, false, []) = some (.go (true, insG lt x l)) ∨ (loopF body (0, false, []) = some (.go (false, l)) ∧ insG lt x l = l ++ [x]) := by
  have d : ∀ (r p out : List α), p ++ r = l → out.length + r.length ≤ 2000000 → loopF body ((p.length : Int), true, out) = some (.go (true, out ++ r)) := by
    intro r
    induction r with
    | nil =>
      intro p out hp _
      rw [List.append_nil] at hp
      subst hp
      refine loop_out ?_
      rw [hb, ltI_f (by simp only [lenL]; omega), List.append_nil]
      rfl
    | cons f r ih =>
      intro p out hp ho
      have hlen : l.length = p.length + r.length + 1 := by rw [← hp]; simp; omega
      have hn : nthI l (p.length : Int) = f := by rw [← hp]; exact nthI_mid p f r
      simp only [List.length_cons] at ho
      have h1 : body ((p.length : Int), true, out) = some (.go (((p ++ [f]).length : Int), true, out ++ [f])) := by
        rw [hb]
        simp only
        rw [ltI_t (by unfold lenL; omega), cond_true, need_t (by rw [← hp]; exact inb_mid p f r), hn, notB_f', show pickB false (lt f) false = false from rfl, cond_false]
        simp only [bind_so, flC_go]
        rw [need_t (appB_1 _ (by omega) hw), succ_n _ (by omega)]
        simp [app_eq]
      rw [loop_go h1, ih (p ++ [f]) (out ++ [f]) (by simpa using hp) (by simp; omega)]
      simp
  have e : ∀ (r p : List α), p ++ r = l → loopF body ((p.length : Int), false, p) = some (.go (true, p ++ insG lt x r)) ∨ (loopF body ((p.length : Int), false, p) = some (.go (false, l)) ∧ insG lt x r = r ++ [x]) := by
    intro r
    induction r with
    | nil =>
      intro p hp
      rw [List.append_nil] at hp
      subst hp
      refine .inr ⟨loop_out ?_, rfl⟩
      rw [hb, ltI_f (by simp only [lenL]; omega)]
      rfl
    | cons f r ih =>
      intro p hp
      have hlen : l.length = p.length + r.length + 1 := by rw [← hp]; simp; omega
      have hn : nthI l (p.length : Int) = f := by rw [← hp]; exact nthI_mid p f r
      have hi : InB (p.length : Int) (lenL l) := by rw [← hp]; exact inb_mid p f r
      by_cases hf : lt f = true
      · left
        have h1 : body ((p.length : Int), false, p) = some (.go (((p ++ [f]).length : Int), true, p ++ [x] ++ [f])) := by
          rw [hb]
          simp only
          rw [ltI_t (by unfold lenL; omega), cond_true, need_t hi, hn, notB_t', hf, show pickB true true false = true from rfl, cond_true, need_t (appB_1 _ (by omega) hw)]
          simp only [bind_so, flC_go]
          rw [need_t (appB_1 _ (by simp [app_eq]; omega) hw), succ_n _ (by omega)]
          simp [app_eq]
        rw [loop_go h1, d r (p ++ [f]) _ (by simpa using hp) (by simp; omega)]
        simp [insG, hf]
      · have hf' : lt f = false := by simpa using hf
        have h1 : body ((p.length : Int), false, p) = some (.go (((p ++ [f]).length : Int), false, p ++ [f])) := by
          rw [hb]
          simp only
          rw [ltI_t (by unfold lenL; omega), cond_true, need_t hi, hn, notB_t', hf', show pickB true false false = false from rfl, cond_false]
          simp only [bind_so, flC_go]
          rw [need_t (appB_1 _ (by omega) hw), succ_n _ (by omega)]
          simp [app_eq]
        rw [loop_go h1]
        rcases ih (p ++ [f]) (by simpa using hp) with q | ⟨q1, q2⟩
        · left
          rw [q]
          simp [insG, hf']
        · right
          refine ⟨q1, ?_⟩
          simp [insG, hf', q2]
  have := e l [] rfl
  simpa using this

/-! ### The schedule -/
theorem flv_congr2 {ids : List Int} {sh sh' lf lf' : Int → Int} (h : ∀ i ∈ ids, sh i = sh' i ∧ lf i = lf' i) : flv ids sh lf = flv ids sh' lf' := by
  unfold flv
  exact List.map_congr_left fun i hi => by rw [(h i hi).1, (h i hi).2]

section
variable {s : DrrSched} {x : RS} {mo : Int} {ids : List Int}
theorem SRel.bad (h : SRel s x mo ids) {id q : Int} (hq : q < mo ∨ 16777216 < q) : gDrrSchedAdd s id q = some (5, s) ∧ gRef19Add x id q = some (x, 5) := by
  obtain ⟨sh, lf, a, gr, hr, rfl, hlf, hsh, hoff⟩ := h
  constructor
  · unfold gDrrSchedAdd
    rw [hr.mo, pickB_or]
    rcases hq with hq | hq
    · rw [ltI_t hq]; rfl
    · rw [ltI_t hq]; simp
  · unfold gRef19Add
    simp only
    rw [pickB_or]
    rcases hq with hq | hq
    · rw [ltI_t hq]; rfl
    · rw [ltI_t hq]; simp
theorem SRel.add (h : SRel s x mo ids) (_h1 : 1 ≤ mo) (hi : ids.length ≤ 1000) {id q : Int} (h0 : mo ≤ q) (hq : q ≤ 16777216) (hn : id ∉ ids) :
    ∃ s' x', gDrrSchedAdd s id q = some (0, s') ∧ gRef19Add x id q = some (x', 0) ∧ SRel s' x' mo (insG (fun i => ltI id i) id ids) := by
  obtain ⟨sh, lf, a, gr, hr, rfl, hlf, hsh, hoff⟩ := h
  have ho := hoff id hn
  obtain ⟨s', e1, e2⟩ := add_ok hr (id := id) h0 hq (by omega)
  have hfl : insG (fun f : RF => ltI id f.fId) ⟨id, q, 0⟩ (flv ids sh lf) = flv (insG (fun i => ltI id i) id ids) (setF sh id q) lf := by
    rw [flv_congr2 (ids := ids) (sh' := setF sh id q) (lf' := lf) fun i hi => ⟨by simp [setF, show i ≠ id from fun e => hn (e ▸ hi)], rfl⟩]
    have := insG_map (lt := fun i => ltI id i) (lt' := fun f : RF => ltI id f.fId) (fun i => (⟨i, setF sh id q i, lf i⟩ : RF)) (fun _ => rfl) id ids
    simp only [setF, if_pos, ho.2] at this
    exact this
  refine ⟨s', ⟨mo, flv (insG (fun i => ltI id i) id ids) (setF sh id q) lf, a, gr⟩, e1, ?_, ?_⟩
  · have hins := ins_loop (l := flv ids sh lf) (lt := fun f : RF => ltI id f.fId) (x := ⟨id, q, 0⟩) (w := 24) (by omega) (by rw [flv_len]; omega) (body := gRef19Add.loop1 ⟨mo, flv ids sh lf, a, gr⟩ id q) (fun s => rfl)
    rw [hfl] at hins
    rcases rfind_ok (s := ⟨mo, flv ids sh lf, a, gr⟩) rfl (by omega) id with ⟨k, hk, ek, ef⟩ | ⟨_, ef⟩
    · exact absurd (List.mem_iff_getElem.2 ⟨k, hk, ek⟩) hn
    · unfold gRef19Add
      simp only
      rw [ltI_f (by omega), ltI_f (by omega), show pickB false true false = false from rfl, cond_false, ef, bind_so, leI_f (by omega), cond_false]
      rcases hins with e | ⟨e, e'⟩
      · rw [e]; rfl
      · rw [e]
        simp only [bind_so, flC_go, notB_t', cond_true]
        rw [need_t (appB_1 _ (by rw [flv_len]; omega) (by omega)), app_eq, ← e']
        rfl
  · refine ⟨setF sh id q, lf, a, gr, e2, rfl, hlf, fun i hi => ?_, fun i hi => ?_⟩
    · rcases List.mem_cons.1 ((insG_perm _ _ _).mem_iff.1 hi) with rfl | hi
      · simp [setF]; omega
      · have : i ≠ id := fun e => hn (e ▸ hi)
        simp only [setF, if_neg this]
        exact hsh i hi
    · have hm := mt (insG_perm _ _ _).mem_iff.2 hi
      simp only [List.mem_cons, not_or] at hm
      simp only [setF, if_neg hm.1]
      exact hoff i hm.2
end
end Go.Proofs

/- A queue and its reference: Put, Expire and the small ones do the same. No condition. -/
import Derived.Test.YtnoeflijefijcaaM08
import Derived.Test.YtnoeflijefijcaaM03
import Derived.Test.YtnoeflijefijcaaM02
section
namespace Go.Proofs
open Go.Ab

theorem some_u {α : Type} {b v : Bool} (x : α) : Under b v ((some x).isSome = true) := fun _ => rfl
theorem len0 {α : Type} {l : List α} (h : l ≠ []) : ltI 0 (lenL l) = true := by
  have := List.length_pos_iff.2 h
  exact ltI_t (by unfold lenL; omega)
theorem lens_gone (q : RQ) : (goneL q.fL).length + (leftL q.fL).length = q.fL.length := by
  have := congrArg List.length (gone_left q.fL); simpa using this
structure Cut (q q' : RQ) (l : List It) : Prop where
  ok : QOk q'
  frames : q'.fh = q.fh
  most : q'.fb = q.fb
  all : l ++ q'.fL = q.fL

theorem Cut.go {q q' : RQ} {l : List It} (h : Cut (rdrop q) q' l) : Cut q q' (goneL q.fL ++ l) :=
  ⟨h.ok, h.frames, h.most, by rw [List.append_assoc, h.all]; exact gone_left _⟩
theorem Cut.nil {q : RQ} (h : QOk q) : Cut q q [] := ⟨h, rfl, rfl, rfl⟩

theorem put_loop (x : It) (hx0 : 0 ≤ x.fm) : ∀ (n : Nat) (q : RQ) (acc : List It), QOk q → x.fm ≤ q.fb → q.fL.length ≤ n → acc.length + q.fL.length ≤ 2000 →
    ∃ q' l, loopF (gv.loop1 x) (acc, qOf q) = some (.go (acc ++ l, qOf q')) ∧ loopF (gX.loop1 x) (acc, q) = some (.go (acc ++ l, q')) ∧ Cut q q' l ∧
      (q'.fL.length : Int) < q.fh ∧ sumS q'.fL + x.fm ≤ q.fb := by
  intro n
  induction n with
  | zero =>
    intro q acc h hm hn _
    have he : q.fL = [] := List.length_eq_zero_iff.mp (by omega)
    have hf := h.frames
    refine ⟨q, [], ?_, ?_, Cut.nil h, by rw [he]; simp; omega, by rw [he]; simp; omega⟩
    · refine Lq ?_
      unfold gv.loop1 qOf
      simp only [he, sumS_nil]
      rw [leI_f (by simp [lenL]; omega), addI_n (by omega) (by have := h.most; omega), ltI_f (by omega)]
      simp [pickB]
    · refine Lq ?_
      unfold gX.loop1
      simp only [he]
      have e := size_ok (l := []) (by simp) (by simp) (by simp)
      rw [leI_f (by simp [lenL]; omega), e, Le (some_u _), subI_n (by omega) (by have := h.most; omega)]
      simp only [Option.getD_some, sumS_nil]
      rw [ltI_f (by omega)]
      simp [pickB]
  | succ n ih =>
    intro q acc h hm hn ha
    have hf := h.frames
    have hmo := h.most
    have hsm := h.small
    have hsu := h.sum
    have h0 := sumS_nn h.size
    have e := size_ok (l := q.fL) (by omega) h.size (by omega)
    by_cases hc : q.fh ≤ (q.fL.length : Int) ∨ q.fb < sumS q.fL + x.fm
    · have hne : q.fL ≠ [] := by
        intro he
        rw [he] at hc
        simp at hc
        omega
      have hb1 : pickB (leqI q.fh (lenL q.fL)) true (ltI q.fb (addI .i64 (sumS q.fL) x.fm)) = true := by
        rw [addI_n (by omega) (by omega), pickB_or]
        rcases hc with hc | hc
        · rw [leI_t (by unfold lenL; omega)]; rfl
        · rw [ltI_t hc]; simp
      have hb2 : pickB (leqI q.fh (lenL q.fL)) true (ltI (subI .i64 q.fb x.fm) (sumS q.fL)) = true := by
        rw [subI_n (by omega) (by omega), pickB_or]
        rcases hc with hc | hc
        · rw [leI_t (by unfold lenL; omega)]; rfl
        · rw [ltI_t (by omega)]; simp
      have hlg := lens_gone q
      have hlt := left_lt hne
      obtain ⟨q', l, h1, h2, h3, h4, h5⟩ := ih (rdrop q) (acc ++ goneL q.fL) h.drop hm (by simp only [rdrop]; omega) (by simp only [rdrop, List.length_append]; omega)
      refine ⟨q', goneL q.fL ++ l, ?_, ?_, h3.go, h4, h5⟩
      · rw [← List.append_assoc, ← h1]
        refine Lw ?_
        unfold gv.loop1
        simp only [drop_ok hne h]
        simp only [qOf, hb1, cond_true, Ld]
        rw [Le (appB_l _ _ (by omega) (by omega) (by omega))]
        rfl
      · rw [← List.append_assoc, ← h2]
        refine Lw ?_
        unfold gX.loop1
        simp only [e, Option.getD_some, hb2, cond_true, rdrop_ok hne (by omega), Ld]
        rw [Le (some_u _), Le (appB_l _ _ (by omega) (by omega) (by omega))]
        rfl
    · have hb1 : pickB (leqI q.fh (lenL q.fL)) true (ltI q.fb (addI .i64 (sumS q.fL) x.fm)) = false := by
        rw [addI_n (by omega) (by omega), pickB_or, leI_f (by unfold lenL; omega), ltI_f (by omega)]; rfl
      have hb2 : pickB (leqI q.fh (lenL q.fL)) true (ltI (subI .i64 q.fb x.fm) (sumS q.fL)) = false := by
        rw [subI_n (by omega) (by omega), pickB_or, leI_f (by unfold lenL; omega), ltI_f (by omega)]; rfl
      refine ⟨q, [], ?_, ?_, Cut.nil h, by omega, by omega⟩
      · refine Lq ?_
        unfold gv.loop1
        simp only [qOf, hb1, cond_false, List.append_nil]
      · refine Lq ?_
        unfold gX.loop1
        simp only [e, Option.getD_some, hb2, cond_false, List.append_nil]
        rw [Le (some_u _)]
theorem put_ok {q : RQ} (h : QOk q) (x : It) : ∃ q' l b, gv (qOf q) x = some (l, b, qOf q') ∧ gX q x = some (q', l, b) ∧ QOk q' ∧
    q'.fh = q.fh ∧ q'.fb = q.fb ∧ l ++ q'.fL = (bif b then q.fL ++ [x] else q.fL) ∧ (b = true → 0 ≤ x.fm ∧ x.fm ≤ q.fb) := by
  have hsm := h.small
  by_cases hc : pickB (pickB (ltI x.fm 0) true (ltI q.fb x.fm)) true (pickB q.fv (notB x.fz) false) = true
  · refine ⟨⟨q.fh, q.fb, q.fL, true⟩, [], false, ?_, ?_, ⟨h.frames, h.most, h.len, h.size, h.sum⟩, rfl, rfl, rfl, fun h => by cases h⟩
    · unfold gv
      simp only [qOf, hc, cond_true]
    · unfold gX
      simp only [hc, cond_true]
  · have hc' := Bool.eq_false_iff.mpr hc
    have hx0 : 0 ≤ x.fm := by
      by_cases hx : x.fm < 0
      · rw [pickB_or, pickB_or, ltI_t hx] at hc'; simp at hc'
      · omega
    have hxm : x.fm ≤ q.fb := by
      by_cases hx : q.fb < x.fm
      · rw [pickB_or, pickB_or, ltI_t hx] at hc'; simp at hc'
      · omega
    obtain ⟨q', l, h1, h2, h3, h4, h5⟩ := put_loop x hx0 q.fL.length q [] h hxm (Nat.le_refl _) (by simp; omega)
    simp only [List.nil_append] at h1 h2
    have hmo := h.most
    have h0 := sumS_nn h3.ok.size
    have hsm' := h3.ok.small
    by_cases hb : pickB q'.fv (notB x.fz) false = true
    · refine ⟨q', l, false, ?_, ?_, h3.ok, h3.frames, h3.most, h3.all, fun h => by cases h⟩
      · unfold gv
        simp only [h1, Ld, flC_go]
        simp only [qOf, hc', cond_false, hb, cond_true]
      · unfold gX
        simp only [hc', cond_false, h2, Ld, flC_go, hb, cond_true]
    · have hb' := Bool.eq_false_iff.mpr hb
      refine ⟨⟨q'.fh, q'.fb, q'.fL ++ [x], false⟩, l, true, ?_, ?_, ⟨h3.frames ▸ h.frames, h3.most ▸ h.most, ?_, ?_, ?_⟩, h3.frames, h3.most, ?_, fun _ => ⟨hx0, hxm⟩⟩
      · unfold gv
        simp only [h1, Ld, flC_go]
        simp only [qOf, hc', cond_false, hb', cut_all, app_eq]
        rw [Le ⟨by omega, lenL_nn _, Int.le_refl _⟩, Le (appB_1 _ (by omega) (by omega)), addI_n (by omega) (by have := h3.most; omega), sumS_app]
        simp
      · unfold gX
        simp only [hc', cond_false, h2, Ld, flC_go, hb', app_eq, List.nil_append]
        rw [Le (appB_0 _ (by omega) (by omega)), Le (appB_1 _ (by omega) (by omega))]
      · simp only [List.length_append, List.length_cons, List.length_nil, h3.frames]; omega
      · intro y hy
        rcases List.mem_append.mp hy with hy | hy
        · exact h3.ok.size y hy
        · rw [List.mem_singleton.mp hy]; exact hx0
      · simp only [sumS_app, sumS_cons, sumS_nil, h3.most]; omega
      · simp only [cond_true, ← List.append_assoc, h3.all]
theorem expire_loop (now age : Int) : ∀ (n : Nat) (q : RQ) (acc : List It), QOk q → q.fL.length ≤ n → acc.length + q.fL.length ≤ 2000 →
    ∃ q' l, loopF (gk.loop1 now age) (acc, qOf q) = some (.go (acc ++ l, qOf q')) ∧ loopF (gR.loop1 now age) (acc, q) = some (.go (acc ++ l, q')) ∧ Cut q q' l ∧
      (∀ x r, q'.fL = x :: r → ¬ age ≤ subI .i64 now x.fy) := by
  intro n
  induction n with
  | zero =>
    intro q acc h hn _
    have he : q.fL = [] := List.length_eq_zero_iff.mp (by omega)
    refine ⟨q, [], ?_, ?_, Cut.nil h, fun x r hx => by rw [he] at hx; cases hx⟩
    · refine Lq ?_
      unfold gk.loop1 qOf
      simp only [he]
      rw [ltI_f (by simp [lenL]), Le (show Under false true _ from fun h => by cases h)]
      simp [pickB]
    · refine Lq ?_
      unfold gR.loop1
      simp only [he]
      rw [ltI_f (by simp [lenL]), Le (show Under false true _ from fun h => by cases h)]
      simp [pickB]
  | succ n ih =>
    intro q acc h hn ha
    have hsm := h.small
    cases hl : q.fL with
    | nil =>
      obtain ⟨q', l, h1, h2, h3, h4⟩ := ih q acc h (by rw [hl]; simp) ha
      exact ⟨q', l, h1, h2, h3, h4⟩
    | cons x r =>
      have hne : q.fL ≠ [] := by rw [hl]; exact List.cons_ne_nil _ _
      by_cases hc : age ≤ subI .i64 now x.fy
      · have hlg := lens_gone q
        have hlt := left_lt hne
        obtain ⟨q', l, h1, h2, h3, h4⟩ := ih (rdrop q) (acc ++ goneL q.fL) h.drop (by simp only [rdrop]; omega) (by simp only [rdrop, List.length_append]; omega)
        refine ⟨q', goneL q.fL ++ l, ?_, ?_, h3.go, h4⟩
        · rw [← List.append_assoc, ← h1]
          refine Lw ?_
          unfold gk.loop1
          simp only [drop_ok hne h, Ld]
          simp only [qOf]
          rw [len0 hne, hl, Le (Lx (inb_0 x r)), nthI_0, leI_t hc, ← hl]
          simp only [pickB, cond_true]
          rw [Le (appB_l _ _ (by omega) (by omega) (by omega))]
          rfl
        · rw [← List.append_assoc, ← h2]
          refine Lw ?_
          unfold gR.loop1
          simp only [rdrop_ok hne (by omega), Ld]
          rw [len0 hne, hl, Le (Lx (inb_0 x r)), nthI_0, leI_t hc, ← hl]
          simp only [pickB, cond_true]
          rw [Le (appB_l _ _ (by omega) (by omega) (by omega))]
          rfl
      · refine ⟨q, [], ?_, ?_, Cut.nil h, fun y s hy => by rw [hl] at hy; cases hy; exact hc⟩
        · refine Lq ?_
          unfold gk.loop1
          simp only [qOf]
          rw [len0 hne, hl, Le (Lx (inb_0 x r)), nthI_0, leI_f hc]
          simp [pickB]
        · refine Lq ?_
          unfold gR.loop1
          simp only []
          rw [len0 hne, hl, Le (Lx (inb_0 x r)), nthI_0, leI_f hc]
          simp [pickB]

theorem expire_ok {q : RQ} (h : QOk q) (now age : Int) : ∃ q' l, gk (qOf q) now age = some (l, qOf q') ∧ gR q now age = some (q', l) ∧ Cut q q' l ∧
    (∀ x r, q'.fL = x :: r → ¬ age ≤ subI .i64 now x.fy) := by
  have hsm := h.small
  obtain ⟨q', l, h1, h2, h3, h4⟩ := expire_loop now age q.fL.length q [] h (Nat.le_refl _) (by simp; omega)
  simp only [List.nil_append] at h1 h2
  refine ⟨q', l, ?_, ?_, h3, h4⟩
  · unfold gk
    rw [h1]; rfl
  · unfold gR
    rw [h2]; rfl

/-! ### The small ones -/
theorem qnew_ok {f m : Int} (hf : 1 ≤ f ∧ f ≤ 1024) (hm : 1 ≤ m ∧ m ≤ 16777216) : gaA f m = some (some (qOf ⟨f, m, [], true⟩), 0) := by
  unfold gaA
  rw [ltI_f (by omega), ltI_f (by omega), ltI_f (by omega), ltI_f (by omega)]
  rfl
theorem qok_new {f m : Int} (hf : 1 ≤ f ∧ f ≤ 1024) (hm : 1 ≤ m ∧ m ≤ 16777216) : QOk ⟨f, m, [], true⟩ :=
  ⟨hf, hm, by simp; omega, fun x hx => (by cases hx), by simp; omega⟩
theorem len_ok (q : RQ) : gab (qOf q) = some (lenL q.fL) := rfl
theorem qsize_ok (q : RQ) : gao (qOf q) = some (sumS q.fL) := rfl
theorem broken_ok (q : RQ) : gY (qOf q) = some q.fv := rfl
theorem break_ok (q : RQ) : gZ (qOf q) = some (q.fL, qOf ⟨q.fh, q.fb, [], true⟩) := rfl
theorem first_ok {q : RQ} {x : It} {r : List It} (h : q.fL = x :: r) : gF (qOf q) = some (x, true) := by
  unfold gF qOf
  simp only [h]
  rw [eqI_f (by unfold lenL; rw [List.length_cons]; omega), cond_false, Le (inb_0 x r), nthI_0]
def rpop (q : RQ) : RQ := ⟨q.fh, q.fb, q.fL.drop 1, q.fv⟩
theorem QOk.pop {q : RQ} (h : QOk q) : QOk (rpop q) := h.sub (q.fL.take 1) (List.take_append_drop 1 _)
theorem pop_ok {q : RQ} (hq : QOk q) {x : It} {r : List It} (h : q.fL = x :: r) : gap (qOf q) = some (x, true, qOf (rpop q)) := by
  have hs := hq.size
  have hm := hq.most
  have hsu := hq.sum
  rw [h] at hs hsu
  rw [sumS_cons] at hsu
  have h1 := hs x (.head _)
  have h2 := sumS_nn (l := r) fun y hy => hs y (.tail _ hy)
  unfold gap qOf rpop
  simp only [h]
  rw [eqI_f (by unfold lenL; rw [List.length_cons]; omega), cond_false, shift_ok h1 (by omega) (by rw [sumS_cons]; omega) (by rw [sumS_cons]; omega)]
  simp only [Ld, List.drop_succ_cons, List.drop_zero]
  rw [sumS_cons, show x.fm + sumS r - x.fm = sumS r by omega]
end Go.Proofs
end
section
namespace Go.Proofs
open Go.Ab
abbrev Fw := Tj
abbrev Sn := Tc

/-! ### Maps -/
section
variable {V : Type}
theorem findM_of {k : Int} {v : V} : ∀ {m : List (Int × V)}, (keysM m).Nodup → (k, v) ∈ m → findM eqI k m = some v
  | [], _, h => by cases h
  | (c, x) :: r, hn, h => by
    unfold findM
    simp only [keysM, List.map_cons, List.nodup_cons] at hn
    rcases List.mem_cons.1 h with h | h
    · cases h
      rw [eqI_t rfl, if_pos rfl]
    · have hne : k ≠ c := fun e => hn.1 (List.mem_map.2 ⟨(k, v), h, e⟩)
      rw [eqI_f hne, if_neg (by decide)]
      exact findM_of hn.2 h
theorem findM_no {k : Int} : ∀ {m : List (Int × V)}, k ∉ keysM m → findM eqI k m = none
  | [], _ => rfl
  | (c, x) :: r, h => by
    unfold findM
    simp only [keysM, List.map_cons, List.mem_cons, not_or] at h
    rw [eqI_f h.1, if_neg (by decide)]
    exact findM_no h.2
theorem setM_perm {k : Int} {v v' : V} : ∀ {m : List (Int × V)} , (keysM m).Nodup → (k, v) ∈ m → ∀ {r}, m.Perm ((k, v) :: r) → (setM eqI k v' m).Perm ((k, v') :: r)
  | [], _, h, _, _ => by cases h
  | (c, x) :: s, hn, h, r, hp => by
    have hn' := hn
    simp only [keysM, List.map_cons, List.nodup_cons] at hn'
    unfold setM
    by_cases he : k = c
    · subst he
      rw [eqI_t rfl, if_pos rfl]
      have : x = v := by
        rcases List.mem_cons.1 h with h | h
        · cases h; rfl
        · exact absurd (List.mem_map.2 ⟨(k, v), h, rfl⟩) hn'.1
      subst this
      exact (hp.cons_inv).cons _
    · rw [eqI_f he, if_neg (by decide)]
      have hm : (k, v) ∈ s := by
        rcases List.mem_cons.1 h with h | h
        · cases h; exact absurd rfl he
        · exact h
      obtain ⟨r', hr'⟩ : ∃ r', s.Perm ((k, v) :: r') := ⟨_, delM_perm hn'.2 hm⟩
      have h1 : r.Perm ((c, x) :: r') := by
        have : ((k, v) :: r).Perm ((k, v) :: (c, x) :: r') := hp.symm.trans ((hr'.cons _).trans (List.Perm.swap _ _ _))
        exact this.cons_inv
      exact ((setM_perm hn'.2 hm hr').cons _).trans ((List.Perm.swap _ _ _).trans (h1.symm.cons _))
end

/-! ### Items of a flow -/
def mkS (id : Int) (l : List It) : List Sn := l.map fun x => ⟨id, x⟩
theorem all_gen {T : Type} {id : Int} {l : List It} {body : Int × List Sn → Option (Fl (Int × List Sn) (Fl (List Sn) T))} (hl : l.length ≤ 1000000)
    (hb : ∀ s, body s = bif ltI s.1 (lenL l) then (need (InB s.1 (lenL l)) <| need (AppB (lenL s.2) 1 40) <| some (.go ((addI .i64 s.1 1), (appL s.2 [(Tc.mk id (nthI l s.1))])))) else some (.out (.go s.2))) :
    loopF body (0, []) = some (.go (mkS id l)) := by
  have key : ∀ (r p : List It), p ++ r = l → loopF body ((p.length : Int), mkS id p) = some (.go (mkS id l)) := by
    intro r
    induction r with
    | nil =>
      intro p hp
      rw [List.append_nil] at hp
      subst hp
      refine Lq ?_
      rw [hb, ltI_f (by simp only [lenL]; omega)]
      rfl
    | cons x r ih =>
      intro p hp
      have hlen : l.length = p.length + r.length + 1 := by rw [← hp]; simp; omega
      have h1 : body ((p.length : Int), mkS id p) = some (.go (((p ++ [x]).length : Int), mkS id (p ++ [x]))) := by
        rw [hb]
        simp only
        rw [ltI_t (by unfold lenL; omega), cond_true, Le (by rw [← hp]; exact inb_mid p x r), Le (appB_1 _ (by simp [mkS]; omega) (by omega)), Lv _ (by omega)]
        have : nthI l (p.length : Int) = x := by rw [← hp]; exact nthI_mid p x r
        rw [this]
        simp [mkS, app_eq]
      rw [Lw h1]
      exact ih (p ++ [x]) (by simpa using hp)
  exact key l [] rfl
theorem eall_ok (id : Int) {l : List It} (hl : l.length ≤ 1000000) : gaa id l = some (mkS id l) := by
  unfold gaa
  rw [all_gen hl (fun s => by unfold gaa.loop1; rfl)]
  rfl

/-! ### The flows -/
def rowF (f : Fw) : Int × Td := (f.fId, ⟨qOf f.fQ, f.fq⟩)
structure FR (m : List (Int × Td)) (F : List Fw) : Prop where
  perm : m.Perm (F.map rowF)
  rise : (F.map (·.fId)).Pairwise (· < ·)
  ok : ∀ f ∈ F, QOk f.fQ
  ids : ∀ f ∈ F, -9223372036854775808 ≤ f.fId ∧ f.fId ≤ 9223372036854775807
  len : F.length ≤ 1000

theorem keys_row (F : List Fw) : keysM (F.map rowF) = F.map (·.fId) := by simp [keysM, rowF, Function.comp_def]
theorem FR.keys {m : List (Int × Td)} {F : List Fw} (h : FR m F) : (keysM m).Perm (F.map (·.fId)) := by
  have := keysM_perm h.perm; rwa [keys_row] at this
theorem FR.nodup {m : List (Int × Td)} {F : List Fw} (h : FR m F) : (keysM m).Nodup :=
  h.keys.nodup_iff.2 (h.rise.imp fun h => by omega)
theorem FR.sort {m : List (Int × Td)} {F : List Fw} (h : FR m F) : sortL (keysM m) = F.map (·.fId) :=
  sortL_of h.keys (h.rise.imp fun h => by omega)
theorem FR.find {m : List (Int × Td)} {F : List Fw} (h : FR m F) {f : Fw} (hf : f ∈ F) : findM eqI f.fId m = some ⟨qOf f.fQ, f.fq⟩ :=
  findM_of h.nodup (h.perm.mem_iff.2 (List.mem_map.2 ⟨f, hf, rfl⟩))
theorem FR.miss {m : List (Int × Td)} {F : List Fw} (h : FR m F) {id : Int} (hf : id ∉ F.map (·.fId)) : findM eqI id m = none :=
  findM_no fun q => hf (h.keys.mem_iff.1 q)
theorem FR.keysB {m : List (Int × Td)} {F : List Fw} (h : FR m F) : KeysB (keysM m) :=
  KeysB_of (fun x hx => by
    obtain ⟨f, hf, rfl⟩ := List.mem_map.1 (h.keys.mem_iff.1 hx)
    exact h.ids f hf) (by have := h.keys.length_eq; have := h.len; simp only [List.length_map] at *; omega)
def waitsV (v : Bool) (f : Fw) : Bool := f.fq == v && !f.fQ.fL.isEmpty

theorem ids_ok {P : Tg} {F : List Fw} (h : FR P.fg F) (v : Bool) : gC P v = some ((F.filter (waitsV v)).map (·.fId)) := by
  have hlen := h.len
  have key : ∀ (r p : List Fw), p ++ r = F → loopF (gC.loop1 P v) ((p.length : Int), (p.filter (waitsV v)).map (·.fId)) = some (.go ((F.filter (waitsV v)).map (·.fId))) := by
    intro r
    induction r with
    | nil =>
      intro p hp
      rw [List.append_nil] at hp
      subst hp
      refine Lq ?_
      unfold gC.loop1
      rw [h.sort, ltI_f (by simp [lenL])]
      rfl
    | cons f r ih =>
      intro p hp
      have hln : F.length = p.length + r.length + 1 := by rw [← hp]; simp; omega
      have hm : f ∈ F := by rw [← hp]; simp
      have hn : nthI (F.map (·.fId)) (p.length : Int) = f.fId := by
        rw [← hp, List.map_append, List.map_cons]
        have := nthI_mid (p.map (·.fId)) f.fId (r.map (·.fId))
        rwa [List.length_map] at this
      have h1 : gC.loop1 P v ((p.length : Int), (p.filter (waitsV v)).map (·.fId)) = some (.go (((p ++ [f]).length : Int), ((p ++ [f]).filter (waitsV v)).map (·.fId))) := by
        unfold gC.loop1
        simp only
        rw [h.sort, ltI_t (by simp [lenL]; omega), cond_true, Le (show InB _ _ from ⟨by omega, by simp [lenL]; omega⟩), hn, h.find hm, optC_some, len_ok, Le (some_u _), Lv _ (by omega)]
        simp only [getD_so]
        rw [eqB_d]
        by_cases hv : f.fq = v
        · rw [decide_eq_true hv]
          by_cases he : f.fQ.fL = []
          · rw [he, ltI_f (by simp [lenL])]
            simp [pickB, waitsV, he]
          · rw [len0 he]
            have hw : waitsV v f = true := by simp [waitsV, hv, he]
            simp only [pickB, cond_true]
            rw [Le (appB_1 _ (by have := List.length_filter_le (waitsV v) p; simp only [List.length_map]; omega) (by omega))]
            simp [hw, app_eq]
        · rw [decide_eq_false hv]
          simp [pickB, waitsV, hv]
      rw [Lw h1]
      exact ih (p ++ [f]) (by simpa using hp)
  unfold gC
  rw [Le h.keysB, show loopF (gC.loop1 P v) (0, []) = _ from key F [] rfl]
  rfl
def hd (f : Fw) : It := nthI f.fQ.fL 0
theorem hd_of {f : Fw} {v : Bool} (h : waitsV v f = true) : ∃ r, f.fQ.fL = hd f :: r := by
  unfold waitsV at h
  unfold hd
  cases hl : f.fQ.fL with
  | nil => rw [hl] at h; simp at h
  | cons x r => exact ⟨r, rfl⟩
theorem waitsV_v {f : Fw} {v : Bool} (h : waitsV v f = true) : f.fq = v := by
  unfold waitsV at h
  simp only [Bool.and_eq_true, beq_iff_eq] at h
  exact h.1
def minFrom (m : Fw) : List Fw → Fw
  | [] => m
  | f :: r => minFrom (if (hd f).fy < (hd m).fy then f else m) r
theorem minFrom_mem : ∀ {r : List Fw} {m : Fw}, minFrom m r = m ∨ minFrom m r ∈ r
  | [], _ => .inl rfl
  | f :: r, m => by
    unfold minFrom
    split
    · rcases minFrom_mem (r := r) (m := f) with h | h
      · rw [h]; exact .inr (.head _)
      · exact .inr (.tail _ h)
    · rcases minFrom_mem (r := r) (m := m) with h | h
      · exact .inl h
      · exact .inr (.tail _ h)

theorem sound1_ok {P : Tg} {F : List Fw} (h : FR P.fg F) {f g : Fw} {v w : Bool} (hf : f ∈ F) (hg : g ∈ F) (hfw : waitsV v f = true) (hgw : waitsV w g = true) :
    gad f.fId g.fId P = some (subI .i64 (hd f).fy (hd g).fy) := by
  obtain ⟨r1, e1⟩ := hd_of hfw
  obtain ⟨r2, e2⟩ := hd_of hgw
  unfold gad
  rw [h.find hf, optC_some, first_ok e1, Ld, h.find hg, optC_some, first_ok e2]
  rfl

theorem sound_ok {P : Tg} {F : List Fw} (h : FR P.fg F) {f : Fw} {r : List Fw} (hs : F.filter (waitsV false) = f :: r) (ht : ∀ g ∈ F, ∀ x ∈ g.fQ.fL, 0 ≤ x.fy ∧ x.fy ≤ 1000000000000) :
    gak P ((F.filter (waitsV false)).map (·.fId)) = some (minFrom f r).fId := by
  have hall : ∀ g ∈ f :: r, g ∈ F ∧ waitsV false g = true := fun g hg => by rw [← hs] at hg; exact List.mem_filter.1 hg
  have hlen : (f :: r).length ≤ 1000 := by rw [← hs]; exact Nat.le_trans (List.length_filter_le _ _) h.len
  have htk : ∀ g ∈ f :: r, 0 ≤ (hd g).fy ∧ (hd g).fy ≤ 1000000000000 := fun g hg => by
    obtain ⟨s, e⟩ := hd_of (hall g hg).2
    exact ht g (hall g hg).1 _ (by rw [e]; exact .head _)
  have key : ∀ (q p : List Fw) (m : Fw), p ++ q = f :: r → m ∈ f :: r → loopF (ga.loop2 ((f :: r).map (·.fId)) P) ((p.length : Int), m.fId) = some (.go (minFrom m q).fId) := by
    intro q
    induction q with
    | nil =>
      intro p m hp _
      rw [List.append_nil] at hp
      subst hp
      refine Lq ?_
      unfold ga.loop2
      rw [ltI_f (by simp [lenL])]
      rfl
    | cons g q ih =>
      intro p m hp hm
      have hln : (f :: r).length = p.length + q.length + 1 := by rw [← hp]; simp; omega
      have hg : g ∈ f :: r := by rw [← hp]; simp
      have hn : nthI ((f :: r).map (·.fId)) (p.length : Int) = g.fId := by
        rw [← hp, List.map_append, List.map_cons]
        have := nthI_mid (p.map (·.fId)) g.fId (q.map (·.fId))
        rwa [List.length_map] at this
      have hin : InB (p.length : Int) (lenL ((f :: r).map (·.fId))) := ⟨by omega, by simp only [lenL, List.length_map]; omega⟩
      have t1 := htk g hg
      have t2 := htk m hm
      have h1 : ga.loop2 ((f :: r).map (·.fId)) P ((p.length : Int), m.fId) = some (.go (((p ++ [g]).length : Int), (if (hd g).fy < (hd m).fy then g else m).fId)) := by
        unfold ga.loop2
        simp only
        rw [ltI_t (by exact hin.2), cond_true, Le hin, hn, sound1_ok h (hall g hg).1 (hall m hm).1 (hall g hg).2 (hall m hm).2, Ld, Lv _ (by omega), subI_n (by omega) (by omega)]
        by_cases hc : (hd g).fy < (hd m).fy
        · rw [ltI_t (by omega), if_pos hc]
          simp only [cond_true, Le hin, Ld, flC_go]
          simp
        · rw [ltI_f (by omega), if_neg hc]
          simp only [cond_false, Ld, flC_go]
          simp
      rw [Lw h1]
      rw [ih (p ++ [g]) _ (by simpa using hp) (by split; exact hg; exact hm)]
      rfl
  unfold gak ga
  rw [hs, ltI_f (by simp [lenL]; omega)]
  simp only [cond_false, Ld, flC_go]
  rw [Le (show InB 0 (lenL ((f :: r).map (·.fId))) from inb_0 _ _), show nthI ((f :: r).map (·.fId)) 0 = f.fId from rfl, show loopF (ga.loop2 ((f :: r).map (·.fId)) P) (1, f.fId) = _ from key r [f] f rfl (.head _)]
  rfl
end Go.Proofs
end

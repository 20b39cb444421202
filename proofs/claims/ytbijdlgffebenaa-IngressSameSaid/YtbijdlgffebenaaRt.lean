/- Putting, the clock and flushing, in both buffers. No condition. -/
import Derived.Test.YtbijdlgffebenaaM04
import Derived.Test.YtbijdlgffebenaaM08
import Derived.Test.YtbijdlgffebenaaRs
namespace Go.Proofs
open Go.Ab

def insL (t : Thg) : List Thg → List Thg
  | [] => [t]
  | u :: r => if t.fAt < u.fAt then t :: u :: r else u :: insL t r
theorem insL_perm (t : Thg) : ∀ L : List Thg, (insL t L).Perm (t :: L)
  | [] => .refl _
  | u :: r => by
    unfold insL
    split
    · exact .refl _
    · exact ((insL_perm t r).cons u).trans (List.Perm.swap _ _ _)
theorem insL_len (t : Thg) (L : List Thg) : (insL t L).length = L.length + 1 := by rw [(insL_perm t L).length_eq]; rfl
theorem insL_up {t : Thg} : ∀ {L : List Thg} {n : Int}, Up n L → n < t.fAt → (∀ u ∈ L, u.fAt ≠ t.fAt) → Up n (insL t L)
  | [], n, _, h, _ => ⟨h, trivial⟩
  | u :: r, n, hu, h, hn => by
    unfold insL
    split
    · rename_i q; exact ⟨h, q, hu.2⟩
    · rename_i q
      have := hn u (.head _)
      exact ⟨hu.1, insL_up hu.2 (by omega) fun v hv => hn v (.tail _ hv)⟩

theorem drop_cons' {L : List Thg} {i : Nat} (h : i < L.length) : L.drop i = nthI L (i : Int) :: L.drop (i + 1) := by
  rw [List.drop_eq_getElem_cons h]
  simp [nthI, h]

theorem with_plain (t : Thg) (L : List Thg) (hl : L.length ≤ 2000000) : gRef09With L t = some (insL t L) := by
  have key : ∀ (k i : Nat) (d : Bool) (out : List Thg), L.length - i = k → i ≤ L.length → out.length ≤ i + 1 → out ++ (if d then L.drop i else insL t (L.drop i)) = insL t L →
      ∃ d' out', loopF (gRef09With.loop1 L t) ((i : Int), d, out) = some (.go (d', out')) ∧ (if d' then out' else out' ++ [t]) = insL t L ∧ out'.length ≤ L.length + 1 := by
    intro k
    induction k with
    | zero =>
      intro i d out hk hi ho he
      have hil : i = L.length := by omega
      subst hil
      refine ⟨d, out, ?_, ?_, ho⟩
      · rw [loopF_eq]
        have : gRef09With.loop1 L t ((L.length : Int), d, out) = some (.out (.go (d, out))) := by
          unfold gRef09With.loop1
          rw [ltI_f (by rw [lenL_def]; omega)]; rfl
        rw [this]
      · simp only [List.drop_length, insL] at he
        cases d <;> simpa using he
    | succ k ih =>
      intro i d out hk hi ho he
      have hlt : i < L.length := by omega
      have hin : InB (i : Int) (lenL L) := ⟨by omega, by rw [lenL_def]; omega⟩
      rw [drop_cons' hlt] at he
      have hL1 : lenL out ≤ 2000002 := by rw [lenL_def]; omega
      have h0 := lenL_nn out
      have step : ∃ d1 out1, gRef09With.loop1 L t ((i : Int), d, out) = some (.go (((i + 1 : Nat) : Int), d1, out1)) ∧ out1.length ≤ i + 2 ∧ out1 ++ (if d1 then L.drop (i + 1) else insL t (L.drop (i + 1))) = insL t L := by
        unfold gRef09With.loop1
        rw [ltI_t hin.2]
        simp only [cond_true]
        rw [need_t hin, addI_n (by omega) (by omega)]
        cases d with
        | true =>
          refine ⟨true, out ++ [nthI L (i : Int)], ?_, by simp; omega, by simpa using he⟩
          simp only [notB_t, pickB_f, cond_false, bind_so, flC_go]
          rw [need_app _ h0 (by decide) (by omega)]; rfl
        | false =>
          simp only [notB_f, pickB_t]
          by_cases q : t.fAt < (nthI L (i : Int)).fAt
          · refine ⟨true, out ++ [t] ++ [nthI L (i : Int)], ?_, ?_, ?_⟩
            · rw [ltI_t q]
              simp only [cond_true]
              rw [need_app _ h0 (by decide) (by omega)]
              simp only [bind_so, flC_go]
              rw [need_app _ (lenL_nn _) (by decide) (by simp only [lenL_appL, lenL_cons, lenL_nil]; omega)]; rfl
            · rcases Nat.lt_or_ge out.length (i + 1) with h1 | h1
              · simp; omega
              · exfalso
                have := congrArg List.length he
                simp only [Bool.false_eq_true, if_false, List.length_append, insL_len, List.length_cons, List.length_drop] at this
                omega
            · simp only [Bool.false_eq_true, if_false, insL, q, if_true] at he
              simpa using he
          · refine ⟨false, out ++ [nthI L (i : Int)], ?_, by simp; omega, ?_⟩
            · rw [ltI_f q]
              simp only [cond_false, bind_so, flC_go]
              rw [need_app _ h0 (by decide) (by omega)]; rfl
            · simp only [Bool.false_eq_true, if_false, insL, q] at he
              simpa using he
      obtain ⟨d1, out1, h1, h2, h3⟩ := step
      obtain ⟨d', out', g1, g2⟩ := ih (i + 1) d1 out1 (by omega) (by omega) h2 h3
      exact ⟨d', out', by rw [loopF_eq, h1]; exact g1, g2⟩
  obtain ⟨d', out', h1, h2, h3⟩ := key L.length 0 false [] (by omega) (by omega) (by simp) (by simp)
  unfold gRef09With
  simp only [Int.natCast_zero] at h1
  rw [h1]
  simp only [bind_so, flC_go]
  cases d' with
  | true =>
    simp only [if_true] at h2
    simp [h2]
  | false =>
    simp only [Bool.false_eq_true, if_false] at h2
    simp only [notB_f, cond_true]
    rw [need_app _ (lenL_nn _) (by decide) (by rw [lenL_def]; omega)]
    simp only [bind_so, flC_go, appL, h2]

def hasL (k : Int) (L : List Thg) : Bool := L.any fun u => decide (u.fAt = k)
theorem hasL_t {k : Int} {L : List Thg} : hasL k L = true ↔ ∃ u ∈ L, u.fAt = k := by simp [hasL]

theorem there_plain (t : Thg) (v : RBf) (hl : v.fL.length ≤ 2000000) : loopF (gRef09Put.loop2 t v) 0 = if hasL t.fAt v.fL = true then some (.out (v, [], 14)) else some (.go ()) := by
  have key : ∀ (k i : Nat), v.fL.length - i = k → i ≤ v.fL.length → loopF (gRef09Put.loop2 t v) (i : Int) = if hasL t.fAt (v.fL.drop i) = true then some (.out (v, [], 14)) else some (.go ()) := by
    intro k
    induction k with
    | zero =>
      intro i hk hi
      have hil : i = v.fL.length := by omega
      rw [loopF_eq]
      have : gRef09Put.loop2 t v (i : Int) = some (.out (.go ())) := by
        unfold gRef09Put.loop2
        rw [ltI_f (by rw [lenL_def]; omega)]; rfl
      rw [this, hil, List.drop_length]; rfl
    | succ k ih =>
      intro i hk hi
      have hlt : i < v.fL.length := by omega
      have hin : InB (i : Int) (lenL v.fL) := ⟨by omega, by rw [lenL_def]; omega⟩
      rw [loopF_eq, drop_cons' hlt]
      by_cases q : (nthI v.fL (i : Int)).fAt = t.fAt
      · have : gRef09Put.loop2 t v (i : Int) = some (.out (.out (v, [], 14))) := by
          unfold gRef09Put.loop2
          rw [ltI_t hin.2]
          simp only [cond_true]
          rw [need_t hin, eqI_t q]; rfl
        rw [this]
        simp [hasL, q]
      · have : gRef09Put.loop2 t v (i : Int) = some (.go ((i + 1 : Nat) : Int)) := by
          unfold gRef09Put.loop2
          rw [ltI_t hin.2]
          simp only [cond_true]
          rw [need_t hin, eqI_f q, addI_n (by omega) (by omega)]; rfl
        rw [this]
        simp only
        rw [ih (i + 1) (by omega) (by omega)]
        simp [hasL, q]
  have := key v.fL.length 0 (by omega) (by omega)
  simpa using this

/-- What is begun by a thing. -/
def begS (x : RBf) (t : Thg) : RBf := if x.fBegun = true then x else ⟨x.fMost, x.fWait, true, t.fAt, x.fL, x.fLost⟩
def runS (x : RBf) : RBf × List Thg := (⟨x.fMost, x.fWait, x.fBegun, (runL x.fNext x.fL).2.1, (runL x.fNext x.fL).2.2, x.fLost⟩, (runL x.fNext x.fL).1)
def addS (x : RBf) (t : Thg) : RBf := ⟨x.fMost, x.fWait, x.fBegun, x.fNext, insL t x.fL, x.fLost⟩
def putS (x : RBf) (t : Thg) : RBf × List Thg × Int :=
  if t.fAt < (begS x t).fNext then (begS x t, [], 13)
  else if hasL t.fAt x.fL = true then (begS x t, [], 14)
  else ((whileS cMost (runS (addS (begS x t) t)).1.fL.length (runS (addS (begS x t) t)).1).1, (runS (addS (begS x t) t)).2 ++ (whileS cMost (runS (addS (begS x t) t)).1.fL.length (runS (addS (begS x t) t)).1).2, 0)

/-- What holds between the calls. -/
structure Inv (x : RBf) : Prop extends Ok x where
  m0 : 1 ≤ x.fMost
  m1 : x.fMost ≤ 1024
  ml : lenL x.fL ≤ x.fMost
  bg : x.fBegun = false → x.fL = [] ∧ x.fNext = 0

structure Good (t : Thg) : Prop where
  a0 : 0 ≤ t.fAt
  a1 : t.fAt ≤ 999999999999
  t0 : 0 ≤ t.fTick
  t1 : t.fTick ≤ 1000000000000

theorem beg_ok {x : RBf} (h : Inv x) {t : Thg} (ht : Good t) : Ok (begS x t) ∧ (begS x t).fL = x.fL ∧ (begS x t).fMost = x.fMost ∧ (begS x t).fBegun = true ∧ (begS x t).fWait = x.fWait ∧ x.fNext ≤ (begS x t).fNext := by
  unfold begS
  split
  · rename_i q; exact ⟨h.toOk, rfl, rfl, q, rfl, Int.le_refl _⟩
  · rename_i q
    obtain ⟨e1, e2⟩ := h.bg (by simpa using q)
    have h0 := h.l0
    have h1 := h.l1
    have h2 := ht.a0
    have h3 := ht.a1
    refine ⟨⟨by rw [e1]; trivial, ht.a0, by simp only; omega, h.l0, by simp only; omega, by rw [e1]; simp, by rw [e1]; simp⟩, rfl, rfl, rfl, rfl, by simp only; omega⟩

theorem add_up {x : RBf} (h : Ok x) {t : Thg} (h1 : x.fNext ≤ t.fAt) (h2 : hasL t.fAt x.fL = false) : Up (x.fNext - 1) (addS x t).fL :=
  insL_up (h.up.weak (by omega)) (by omega) fun u hu e => by
    have : hasL t.fAt x.fL = true := hasL_t.2 ⟨u, hu, e⟩
    rw [h2] at this; cases this

theorem run_ok {x : RBf} (h : Ok x) {t : Thg} (ht : Good t) (h1 : x.fNext ≤ t.fAt) (h2 : hasL t.fAt x.fL = false) (hl : x.fL.length ≤ 999999) : Ok (runS (addS x t)).1 ∧ (runS (addS x t)).2.length + (runS (addS x t)).1.fL.length = x.fL.length + 1 := by
  have hu := add_up h h1 h2
  obtain ⟨q1, q2, q3, q4⟩ := runL_spec _ _ hu
  have hlen := runL_len hu
  have hi := insL_len t x.fL
  have hmem : ∀ u ∈ (addS x t).fL, u.fAt ≤ 999999999999 ∧ 0 ≤ u.fTick ∧ u.fTick ≤ 1000000000000 := fun u hu => by
    have : u ∈ t :: x.fL := (insL_perm t x.fL).mem_iff.1 hu
    cases this with
    | head => exact ⟨ht.a1, ht.t0, ht.t1⟩
    | tail _ hu => exact h.at_ u hu
  have hsub : ∀ u ∈ (runL x.fNext (addS x t).fL).2.2, u ∈ (addS x t).fL := fun u hu => by rw [q2]; exact List.mem_append_right _ hu
  have hsub1 : ∀ u ∈ (runL x.fNext (addS x t).fL).1, u ∈ (addS x t).fL := fun u hu => by rw [q2]; exact List.mem_append_left _ hu
  have hnn := h.nn
  have hnb := h.nb
  have h0 := h.l0
  have h01 := h.l1
  have hal : (addS x t).fL.length = x.fL.length + 1 := hi
  refine ⟨⟨q1, ?_, ?_, h0, ?_, fun u hu => hmem u (hsub u hu), ?_⟩, ?_⟩
  · simp only [runS]; show 0 ≤ (runL x.fNext (addS x t).fL).2.1; rw [q3]; omega
  · simp only [runS]; show (runL x.fNext (addS x t).fL).2.1 ≤ _
    rw [q3]
    by_cases hq : (runL x.fNext (addS x t).fL).1 = []
    · rw [hq]; simp; omega
    · have := from_last q4 999999999999 (fun u hu => (hmem u (hsub1 u hu)).1) hq
      omega
  · simp only [runS]; show x.fLost ≤ (runL x.fNext (addS x t).fL).2.1; rw [q3]; omega
  · simp only [runS]; show (runL x.fNext (addS x t).fL).2.2.length ≤ _; omega
  · show (runL x.fNext (addS x t).fL).1.length + (runL x.fNext (addS x t).fL).2.2.length = _; omega

theorem whileS_most (c : RBf → Bool) : ∀ (f : Nat) (x : RBf), (whileS c f x).1.fMost = x.fMost ∧ (whileS c f x).1.fBegun = x.fBegun ∧ (whileS c f x).1.fWait = x.fWait
  | 0, x => ⟨rfl, rfl, rfl⟩
  | f + 1, x => by
    unfold whileS
    split
    · obtain ⟨h1, h2, h3⟩ := whileS_most c f (skipS x).1
      simp only
      rw [h1, h2, h3]
      unfold skipS
      split <;> exact ⟨rfl, rfl, rfl⟩
    · exact ⟨rfl, rfl, rfl⟩

theorem cMost_ne {x : RBf} (hm : 0 ≤ x.fMost) (h : cMost x = true) : x.fL ≠ [] := fun e => by
  simp only [cMost, e, lenL_nil, decide_eq_true_eq] at h; omega

/-- The same, where the bound is not negative. -/
theorem while_okM : ∀ (f : Nat) (x : RBf), Ok x → 0 ≤ x.fMost → x.fL.length ≤ f → Ok (whileS cMost f x).1 ∧ cMost (whileS cMost f x).1 = false ∧ (whileS cMost f x).2.length + (whileS cMost f x).1.fL.length = x.fL.length
  | 0, x, h, hm, hl => by
    have hL : x.fL = [] := List.eq_nil_of_length_eq_zero (by omega)
    refine ⟨h, ?_, by simp [whileS]⟩
    cases hh : cMost x with
    | false => simpa [whileS] using hh
    | true => exact absurd hL (cMost_ne hm hh)
  | f + 1, x, h, hm, hl => by
    cases hh : cMost x with
    | false => simp only [whileS, hh, Bool.false_eq_true, if_false]; exact ⟨h, trivial, by simp⟩
    | true =>
      cases hL : x.fL with
      | nil => exact absurd hL (cMost_ne hm hh)
      | cons t r =>
        obtain ⟨q1, q2, q3⟩ := skip_ok h hL
        have hm' : 0 ≤ (skipS x).1.fMost := by unfold skipS; split <;> exact hm
        obtain ⟨r1, r2, r3⟩ := while_okM f (skipS x).1 q1 hm' (by omega)
        simp only [whileS, hh, if_true]
        refine ⟨r1, r2, ?_⟩
        rw [← hL]
        simp only [List.length_append]; omega

theorem put_inv {x : RBf} (h : Inv x) {t : Thg} (ht : Good t) : Inv (putS x t).1 ∧ (putS x t).1.fBegun = true ∧ (putS x t).1.fMost = x.fMost ∧ (putS x t).1.fWait = x.fWait := by
  obtain ⟨b1, b2, b3, b4, b5, b6⟩ := beg_ok h ht
  have hml := h.ml
  have hm0 := h.m0
  have hm1 := h.m1
  rw [lenL_def] at hml
  have same : Inv (begS x t) := { b1 with m0 := by rw [b3]; exact h.m0, m1 := by rw [b3]; exact h.m1, ml := by rw [b2, b3]; exact h.ml, bg := fun e => by rw [b4] at e; cases e }
  unfold putS
  split
  · exact ⟨same, b4, b3, b5⟩
  · rename_i hge
    split
    · exact ⟨same, b4, b3, b5⟩
    · rename_i hno
      have hno' : hasL t.fAt (begS x t).fL = false := by rw [b2]; simpa using hno
      obtain ⟨r1, r2⟩ := run_ok b1 ht (by omega) hno' (by rw [b2]; omega)
      have hmo : (runS (addS (begS x t) t)).1.fMost = x.fMost := b3
      obtain ⟨w1, w2, w3⟩ := while_okM _ _ r1 (by rw [hmo]; omega) (Nat.le_refl _)
      obtain ⟨m1, m2, m3⟩ := whileS_most cMost (runS (addS (begS x t) t)).1.fL.length (runS (addS (begS x t) t)).1
      refine ⟨{ w1 with m0 := by rw [m1, hmo]; exact h.m0, m1 := by rw [m1, hmo]; exact h.m1, ml := ?_, bg := fun e => ?_ }, ?_, ?_, ?_⟩
      · simp only [cMost, decide_eq_false_iff_not] at w2
        exact Int.not_lt.1 w2
      · rw [m2] at e
        have : (runS (addS (begS x t) t)).1.fBegun = true := b4
        rw [this] at e; cases e
      · rw [m2]; exact b4
      · rw [m1]; exact b3
      · rw [m3]; exact b5

/-! ### The document's -/
theorem rrun_plain {x : RBf} (hu : Up (x.fNext - 1) x.fL) (h0 : 0 ≤ x.fNext) (h1 : x.fNext ≤ 1000000000000) (hl : x.fL.length ≤ 2000000) : ∃ ep, gRef09Run x = some ((runS x).1, (runS x).2, ep) := by
  obtain ⟨mo, wa, be, n, L, lo⟩ := x
  simp only at hu h0 h1 hl
  obtain ⟨ep, q⟩ := rrun mo wa lo be L [] 0 n hu h0 (by omega) (by simp only [List.length_nil]; omega)
  refine ⟨ep, ?_⟩
  unfold gRef09Run
  rw [q]
  simp [runS]

theorem rskip_step {acc : List Thg} {x : RBf} (h : Ok x) (hne : x.fL ≠ []) (hb : acc.length + x.fL.length ≤ 2000000) : ∃ ep, gRef09Skip x = some ((skipS x).1, (skipS x).2, ep) ∧ AppB (lenL acc) (lenL (skipS x).2) 32 := by
  cases hL : x.fL with
  | nil => exact absurd hL hne
  | cons t r =>
    obtain ⟨q1, q2, q3⟩ := skip_ok h hL
    obtain ⟨ep, h1⟩ := rskip h hL
    refine ⟨ep, h1, ?_⟩
    rw [lenL_def, lenL_def]
    exact ⟨by omega, by omega⟩

theorem rput_loop (f : Nat) (x : RBf) (acc : List Thg) (hl : x.fL.length ≤ f) (h : Ok x) (hm : 0 ≤ x.fMost) (hb : acc.length + x.fL.length ≤ 2000000) :
    loopF gRef09Put.loop3 (acc, x) = some (.go (acc ++ (whileS cMost f x).2, (whileS cMost f x).1)) := by
  induction f generalizing x acc with
  | zero =>
    have hL : x.fL = [] := List.eq_nil_of_length_eq_zero (by omega)
    rw [loopF_eq]
    have : gRef09Put.loop3 (acc, x) = some (.out (.go (acc, x))) := by
      unfold gRef09Put.loop3
      have : ltI x.fMost (lenL x.fL) = false := ltI_f (by rw [hL, lenL_nil]; omega)
      rw [this]; rfl
    rw [this]; simp [whileS]
  | succ f ih =>
    rw [loopF_eq]
    cases hh : cMost x with
    | false =>
      have : gRef09Put.loop3 (acc, x) = some (.out (.go (acc, x))) := by
        unfold gRef09Put.loop3
        have : ltI x.fMost (lenL x.fL) = false := hh
        rw [this]; rfl
      rw [this]; simp [whileS, hh]
    | true =>
      have hne := cMost_ne hm hh
      obtain ⟨ep, q1, q2⟩ := rskip_step h hne hb
      have : gRef09Put.loop3 (acc, x) = some (.go (acc ++ (skipS x).2, (skipS x).1)) := by
        unfold gRef09Put.loop3
        have : ltI x.fMost (lenL x.fL) = true := hh
        rw [this]
        simp only [cond_true, q1, bind_so]
        rw [need_t q2]; rfl
      rw [this]
      cases hL : x.fL with
      | nil => exact absurd hL hne
      | cons t r =>
        obtain ⟨k1, k2, k3⟩ := skip_ok h hL
        have hm' : 0 ≤ (skipS x).1.fMost := by unfold skipS; split <;> exact hm
        simp only
        rw [ih (skipS x).1 (acc ++ (skipS x).2) (by omega) k1 hm' (by simp only [List.length_append]; omega)]
        simp [whileS, hh]

theorem rput {x : RBf} (h : Inv x) {t : Thg} (ht : Good t) : gRef09Put x t = some ((putS x t).1, (putS x t).2.1, (putS x t).2.2) := by
  obtain ⟨b1, b2, b3, b4, b5, b6⟩ := beg_ok h ht
  have hml := h.ml
  have hm0 := h.m0
  have hm1 := h.m1
  rw [lenL_def] at hml
  have hbeg : ((bif (notB x.fBegun) then (some (.go (Antiphonref09Buffer.mk x.fMost x.fWait true t.fAt x.fL x.fLost))) else (some (.go x)) : Option (Fl Antiphonref09Buffer (Antiphonref09Buffer × List Antiphonref09Thing × Int)))) = some (.go (begS x t)) := by
    unfold begS
    cases x.fBegun <;> rfl
  unfold gRef09Put
  rw [hbeg]
  simp only [bind_so, flC_go]
  unfold putS
  by_cases q : t.fAt < (begS x t).fNext
  · rw [ltI_t q, if_pos q]; rfl
  · rw [ltI_f q, if_neg q]
    simp only [cond_false]
    rw [there_plain t _ (by rw [b2]; omega)]
    rw [b2]
    cases hh : hasL t.fAt x.fL with
    | true => simp
    | false =>
      simp only [Bool.false_eq_true, if_false, bind_so, flC_go]
      rw [with_plain t x.fL (by omega)]
      simp only [bind_so]
      have hno' : hasL t.fAt (begS x t).fL = false := by rw [b2]; exact hh
      obtain ⟨r1, r2⟩ := run_ok b1 ht (by omega) hno' (by rw [b2]; omega)
      have hu := add_up b1 (t := t) (by omega) hno'
      have hal : (addS (begS x t) t).fL.length = (begS x t).fL.length + 1 := insL_len _ _
      have hadd : (Antiphonref09Buffer.mk (begS x t).fMost (begS x t).fWait (begS x t).fBegun (begS x t).fNext (insL t x.fL) (begS x t).fLost) = addS (begS x t) t := by
        unfold addS; rw [b2]
      obtain ⟨ep, hr⟩ := rrun_plain (x := addS (begS x t) t) hu b1.nn b1.nb (by rw [hal, b2]; omega)
      rw [hadd, hr]
      simp only [bind_so]
      rw [rput_loop (runS (addS (begS x t) t)).1.fL.length _ _ (Nat.le_refl _) r1 (by show 0 ≤ (begS x t).fMost; rw [b3]; omega) (by rw [r2, b2]; omega)]
      simp only [bind_so, flC_go]

/-! ### The buffer's -/
theorem oput {b : ReorderBuffer} {x : RBf} (hr : Rel b x) (h : Inv x) {t : Thg} (ht : Good t) : ∃ b', gReorderBufferPut b t = some ((putS x t).2.1, (putS x t).2.2, b') ∧ Rel b' (putS x t).1 := by
  obtain ⟨b1, b2, b3, b4, b5, b6⟩ := beg_ok h ht
  have hml := h.ml
  have hm0 := h.m0
  have hm1 := h.m1
  rw [lenL_def] at hml
  have hrB : Rel ⟨b.fConfig, (begS x t).fBegun, (begS x t).fNext, b.fOf, b.fLost⟩ (begS x t) := by
    refine ⟨by rw [b3, b5]; exact hr.c, rfl, rfl, ?_, by rw [b2]; exact hr.mp⟩
    rw [hr.lo]; unfold begS; split <;> rfl
  have hbeg : ((bif (notB b.fBegun) then (some (.go (true, t.fAt))) else (some (.go (b.fBegun, b.fNext))) : Option (Fl (Bool × Int) (List Antiphonref09Thing × Int × ReorderBuffer)))) = some (.go ((begS x t).fBegun, (begS x t).fNext)) := by
    rw [hr.bg, hr.nx]
    unfold begS
    cases hb : x.fBegun <;> simp [hb, notB]
  unfold gReorderBufferPut
  rw [hbeg]
  simp only [bind_so, flC_go]
  unfold putS
  by_cases q : t.fAt < (begS x t).fNext
  · rw [ltI_t q, if_pos q]
    exact ⟨_, rfl, hrB⟩
  · rw [ltI_f q, if_neg q]
    simp only [cond_false]
    cases hh : hasL t.fAt x.fL with
    | true =>
      rw [hasM_t (hr.mp.has.2 (hasL_t.1 hh))]
      simp only [cond_true, if_true]
      exact ⟨_, rfl, hrB⟩
    | false =>
      have hnot : t.fAt ∉ keysM b.fOf := fun hk => by
        have := hasL_t.2 (hr.mp.has.1 hk)
        rw [hh] at this; cases this
      rw [hasM_f hnot, setM_no hnot]
      simp only [Bool.false_eq_true, if_false, cond_false]
      have hno' : hasL t.fAt (begS x t).fL = false := by rw [b2]; exact hh
      obtain ⟨r1, r2⟩ := run_ok b1 ht (by omega) hno' (by rw [b2]; omega)
      have hu := add_up b1 (t := t) (by omega) hno'
      have hal : (addS (begS x t) t).fL.length = (begS x t).fL.length + 1 := insL_len _ _
      have hmp : MapOf (b.fOf ++ [(t.fAt, t)]) (addS (begS x t) t).fL := by
        have h1 : (b.fOf ++ [(t.fAt, t)]).Perm ((t.fAt, t) :: b.fOf) := List.perm_append_singleton _ _
        have h2 : ((t :: x.fL).map fun u => (u.fAt, u)).Perm ((addS (begS x t) t).fL.map fun u => (u.fAt, u)) := by
          have := (insL_perm t x.fL).symm.map fun u : Thg => (u.fAt, u)
          simp only [addS, b2]; exact this
        exact (h1.trans (hr.mp.cons _)).trans h2
      obtain ⟨ep, m', q1, q2⟩ := orun ⟨b.fConfig, (begS x t).fBegun, (begS x t).fNext, b.fOf ++ [(t.fAt, t)], b.fLost⟩ (addS (begS x t) t).fL [] 0 (begS x t).fNext (b.fOf ++ [(t.fAt, t)]) hu hmp b1.nn (by have := b1.nb; rw [hal, b2]; omega) (by rw [hal, b2]; simp only [List.length_nil]; omega)
      unfold gReorderBufferRun
      simp only
      rw [q1]
      simp only [bind_so, flC_out, List.nil_append]
      have hI : OI ((runS (addS (begS x t) t)).2, b.fConfig, (begS x t).fBegun, (runL (begS x t).fNext (addS (begS x t) t).fL).2.1, b.fLost, m') (runS (addS (begS x t) t)).2 (runS (addS (begS x t) t)).1 :=
        ⟨rfl, hrB.c, rfl, rfl, hrB.lo, q2⟩
      obtain ⟨s', g1, g2⟩ := oput_loop (runS (addS (begS x t) t)).1.fL.length (runS (addS (begS x t) t)).1 (runS (addS (begS x t) t)).2 _ (Nat.le_refl _) hI r1 (by show 0 ≤ (begS x t).fMost; rw [b3]; omega) (by rw [r2, b2]; omega)
      have e : (runL (begS x t).fNext (addS (begS x t) t).fL).1 = (runS (addS (begS x t) t)).2 := rfl
      rw [e, g1]
      simp only [bind_so, flC_go]
      refine ⟨_, ?_, g2.2⟩
      rw [g2.1]
end Go.Proofs

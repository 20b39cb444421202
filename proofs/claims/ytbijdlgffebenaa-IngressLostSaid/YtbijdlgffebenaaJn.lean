/- What waits, what is lost, how many pictures can be whole, where packets don't come. No condition. -/
import Derived.Test.YtbijdlgffebenaaJm
namespace Go.Proofs
open Go.Ab

/-! ### How many don't come -/
def gapN (ab : Nat → Bool) : Nat → Int
  | 0 => 0
  | a + 1 => gapN ab a + (if ab a = true then 1 else 0)
theorem gapN_all (ab : Nat → Bool) (a : Nat) : ∀ d : Nat, (∀ k, a ≤ k → k < a + d → ab k = true) → gapN ab (a + d) = gapN ab a + d
  | 0, _ => by simp
  | d + 1, h => by
    show gapN ab (a + d) + (if ab (a + d) = true then 1 else 0) = _
    rw [gapN_all ab a d (fun k h1 h2 => h k h1 (by omega)), if_pos (h (a + d) (by omega) (by omega))]
    omega
theorem gapN_one (ab : Nat → Bool) (q : Int) : ∀ a : Nat, gapN ab a ≤ gapN (fun k => ab k && decide ((k : Int) ≠ q)) a + (if 0 ≤ q ∧ q < a then 1 else 0)
  | 0 => by
    rw [if_neg (by omega)]
    simp [gapN]
  | a + 1 => by
    have ih := gapN_one ab q a
    show gapN ab a + (if ab a = true then 1 else 0) ≤ gapN (fun k => ab k && decide ((k : Int) ≠ q)) a + (if (ab a && decide ((a : Int) ≠ q)) = true then 1 else 0) + _
    by_cases hq : (a : Int) = q
    · rw [if_neg (by omega)] at ih
      have e : (ab a && decide ((a : Int) ≠ q)) = false := by rw [decide_eq_false (fun h => h hq), Bool.and_false]
      rw [e, if_neg (show ¬ (false = true) by simp), if_pos (show 0 ≤ q ∧ q < ((a + 1 : Nat) : Int) by omega)]
      split <;> omega
    · have e : (ab a && decide ((a : Int) ≠ q)) = ab a := by rw [decide_eq_true hq, Bool.and_true]
      rw [e]
      split at ih
      · rw [if_pos (show 0 ≤ q ∧ q < ((a + 1 : Nat) : Int) by omega)]
        split <;> omega
      · rw [if_neg (show ¬ (0 ≤ q ∧ q < ((a + 1 : Nat) : Int)) by omega)]
        split <;> omega
theorem gapN_len : ∀ (ks : List Int) (ab : Nat → Bool) (a : Nat), (∀ k, k < a → ab k = true → (k : Int) ∈ ks) → gapN ab a ≤ ks.length
  | [], ab, a, h => by
    have : ∀ b : Nat, b ≤ a → gapN ab b = 0 := fun b => by
      induction b with
      | zero => intro _; rfl
      | succ b ih =>
        intro hb
        show gapN ab b + (if ab b = true then 1 else 0) = 0
        rw [ih (by omega), if_neg (fun hh => by have := h b (by omega) hh; cases this)]; rfl
    rw [this a (Nat.le_refl _)]; simp
  | q :: ks, ab, a, h => by
    have h1 := gapN_one ab q a
    have h2 := gapN_len ks (fun k => ab k && decide ((k : Int) ≠ q)) a (fun k hk hb => by
      simp only [Bool.and_eq_true, decide_eq_true_eq] at hb
      rcases List.mem_cons.1 (h k hk hb.1) with e | e
      · exact absurd e hb.2
      · exact e)
    simp only [List.length_cons, Int.natCast_add]
    have h3 : (if 0 ≤ q ∧ q < (a : Int) then (1 : Int) else 0) ≤ 1 := by split <;> omega
    omega

/-! ### What waits -/
structure At (B : Int) (ab : Nat → Bool) (i : Nat) (t : Thg) : Prop where
  at_ : ∃ k : Nat, t.fAt = B + k ∧ k < i ∧ ab k = false ∧ t.fO = k
structure Jo (B : Int) (ab : Nat → Bool) (i : Nat) (x : RBf) : Prop where
  up : Up (x.fg - 1) x.fL
  nx : ∃ a : Nat, x.fg = B + a ∧ a ≤ i ∧ x.fe = gapN ab a
  mem : ∀ t ∈ x.fL, At B ab i t
  all : ∀ k : Nat, k < i → ab k = false → x.fg ≤ B + k → ∃ t ∈ x.fL, t.fAt = B + k

theorem runL_jo {B : Int} {ab : Nat → Bool} {i : Nat} : ∀ (L : List Thg) (a : Nat), Up (B + a - 1) L → a ≤ i → (∀ t ∈ L, At B ab i t) → (∀ k : Nat, k < i → ab k = false → B + a ≤ B + k → ∃ t ∈ L, t.fAt = B + k) →
    ∃ a' : Nat, (runL (B + a) L).2.1 = B + a' ∧ a' ≤ i ∧ gapN ab a' = gapN ab a ∧ Up (B + a' - 1) (runL (B + a) L).2.2 ∧ (∀ t ∈ (runL (B + a) L).2.2, At B ab i t) ∧ (∀ k : Nat, k < i → ab k = false → B + a' ≤ B + k → ∃ t ∈ (runL (B + a) L).2.2, t.fAt = B + k)
  | [], a, hu, ha, hm, hall => ⟨a, rfl, ha, rfl, hu, hm, hall⟩
  | t :: r, a, hu, ha, hm, hall => by
    by_cases e : t.fAt = B + a
    · rw [runL_t e]
      obtain ⟨k, k1, k2, k3, _⟩ := (hm t (.head _)).at_
      have hka : k = a := by omega
      subst hka
      have e1 : B + (k : Int) + 1 = B + ((k + 1 : Nat) : Int) := by omega
      rw [e1]
      have hu2 : Up (B + ((k + 1 : Nat) : Int) - 1) r := hu.2.weak (by omega)
      obtain ⟨a', q1, q2, q3, q4, q5, q6⟩ := runL_jo r (k + 1) hu2 (by omega) (fun u hu => hm u (.tail _ hu)) (fun j hj hb hl => by
        obtain ⟨u, hu, he⟩ := hall j hj hb (by omega)
        rcases List.mem_cons.1 hu with rfl | hu
        · omega
        · exact ⟨u, hu, he⟩)
      refine ⟨a', q1, q2, ?_, q4, q5, q6⟩
      rw [q3]
      show gapN ab k + (if ab k = true then 1 else 0) = _
      rw [k3, if_neg (by simp)]; omega
    · rw [runL_f e]
      exact ⟨a, rfl, ha, rfl, hu, hm, hall⟩

theorem run_jo {B : Int} {ab : Nat → Bool} {i : Nat} {x : RBf} (h : Jo B ab i x) : Jo B ab i (runS x).1 := by
  obtain ⟨a, h1, h2, h3⟩ := h.nx
  have hu := h.up
  rw [h1] at hu
  have hall := h.all
  rw [h1] at hall
  obtain ⟨a', q1, q2, q3, q4, q5, q6⟩ := runL_jo x.fL a hu h2 h.mem hall
  rw [← h1] at q1 q4 q5 q6
  refine ⟨?_, ⟨a', q1, q2, by rw [q3]; exact h3⟩, q5, fun k hk hb hl => q6 k hk hb ?_⟩
  · show Up ((runL x.fg x.fL).2.1 - 1) (runL x.fg x.fL).2.2
    rw [q1]; exact q4
  · have hl' : (runL x.fg x.fL).2.1 ≤ B + k := hl
    rw [q1] at hl'; exact hl'

theorem skip_jo {B : Int} {ab : Nat → Bool} {i : Nat} {x : RBf} (h : Jo B ab i x) : Jo B ab i (skipS x).1 := by
  cases hL : x.fL with
  | nil =>
    have : skipS x = (x, []) := by unfold skipS; rw [hL]
    rw [this]; exact h
  | cons t r =>
    obtain ⟨a, h1, h2, h3⟩ := h.nx
    have hu := h.up
    have hmem := h.mem
    have hall := h.all
    rw [hL] at hu hmem hall
    obtain ⟨k, k1, k2, k3, _⟩ := (hmem t (.head _)).at_
    have hle : a ≤ k := by
      have := hu.1
      omega
    obtain ⟨d, hd⟩ : ∃ d, k = a + d := ⟨k - a, by omega⟩
    have hg := gapN_all ab a d (fun q q1 q2 => by
      cases hq : ab q with
      | true => rfl
      | false =>
        obtain ⟨u, hu1, hu2⟩ := hall q (by omega) hq (by omega)
        rcases List.mem_cons.1 hu1 with rfl | hu1
        · omega
        · have := hu.2.mem u hu1
          omega)
    rw [← hd] at hg
    have hu2 : Up (B + k - 1) (t :: r) := by
      have := up_head hu
      rw [k1] at this; exact this
    obtain ⟨a', q1, q2, q3, q4, q5, q6⟩ := runL_jo (t :: r) k hu2 (by omega) hmem (fun j hj hb hl => hall j hj hb (by omega))
    rw [← k1] at q1 q4 q5 q6
    have es : skipS x = (⟨x.fk, x.fq, x.fd, (runL t.fAt (t :: r)).2.1, (runL t.fAt (t :: r)).2.2, x.fe + (t.fAt - x.fg)⟩, (runL t.fAt (t :: r)).1) := by
      unfold skipS; rw [hL]
    rw [es]
    refine ⟨?_, ⟨a', q1, q2, ?_⟩, q5, fun j hj hb hl => q6 j hj hb ?_⟩
    · show Up ((runL t.fAt (t :: r)).2.1 - 1) (runL t.fAt (t :: r)).2.2
      rw [q1]; exact q4
    · show x.fe + (t.fAt - x.fg) = _
      rw [q3, hg, h3, k1, h1]; omega
    · have hl' : (runL t.fAt (t :: r)).2.1 ≤ B + j := hl
      rw [q1] at hl'; exact hl'

theorem while_jo {B : Int} {ab : Nat → Bool} {i : Nat} (c : RBf → Bool) : ∀ (f : Nat) (x : RBf), Jo B ab i x → Jo B ab i (whileS c f x).1
  | 0, _, h => h
  | f + 1, x, h => by
    unfold whileS
    split
    · exact while_jo c f _ (skip_jo h)
    · exact h

theorem add_jo {B : Int} {ab : Nat → Bool} {i : Nat} {x : RBf} (h : Jo B ab i x) (hb : ab i = false) {t : Thg} (ht : t.fAt = B + i) (hk : t.fO = i) : Jo B ab (i + 1) (addS x t) := by
  obtain ⟨a, h1, h2, h3⟩ := h.nx
  have hp := insL_perm t x.fL
  refine ⟨?_, ⟨a, h1, by omega, h3⟩, fun u hu => ?_, fun k k1 k2 k3 => ?_⟩
  · show Up (x.fg - 1) (insL t x.fL)
    exact insL_up h.up (by omega) (fun u hu e => by
      obtain ⟨k, k1, k2, _⟩ := (h.mem u hu).at_
      omega)
  · rcases List.mem_cons.1 (hp.mem_iff.1 hu) with rfl | hu
    · exact ⟨i, ht, by omega, hb, hk⟩
    · obtain ⟨k, k1, k2, k3, k4⟩ := (h.mem u hu).at_
      exact ⟨k, k1, by omega, k3, k4⟩
  · by_cases e : k = i
    · subst e
      exact ⟨t, hp.mem_iff.2 (.head _), ht⟩
    · obtain ⟨u, hu, he⟩ := h.all k (by omega) k2 k3
      exact ⟨u, hp.mem_iff.2 (.tail _ hu), he⟩
theorem miss_jo {B : Int} {ab : Nat → Bool} {i : Nat} {x : RBf} (h : Jo B ab i x) (hb : ab i = true) : Jo B ab (i + 1) x := by
  obtain ⟨a, h1, h2, h3⟩ := h.nx
  refine ⟨h.up, ⟨a, h1, by omega, h3⟩, fun u hu => ?_, fun k k1 k2 k3 => ?_⟩
  · obtain ⟨k, k1, k2, k3, k4⟩ := (h.mem u hu).at_
    exact ⟨k, k1, by omega, k3, k4⟩
  · have : k ≠ i := fun e => by rw [e, hb] at k2; cases k2
    exact h.all k (by omega) k2 k3

theorem put_jo {B : Int} {ab : Nat → Bool} {i : Nat} {x : RBf} {t : Thg} (h : Jo B ab i (begS x t)) (hL : (begS x t).fL = x.fL) (hb : ab i = false) (ht : t.fAt = B + i) (hk : t.fO = i) :
    (putS x t).2.2 = 0 ∧ Jo B ab (i + 1) (putS x t).1 ∧ (putS x t).2.1 ++ (putS x t).1.fL = insL t x.fL ∧ (putS x t).1.fq = (begS x t).fq ∧ (putS x t).1.fd = (begS x t).fd := by
  obtain ⟨a, h1, h2, h3⟩ := h.nx
  have c1 : ¬ t.fAt < (begS x t).fg := by omega
  have c2 : hasL t.fAt x.fL = false := by
    cases hh : hasL t.fAt x.fL with
    | false => rfl
    | true =>
      obtain ⟨u, hu, e⟩ := hasL_t.1 hh
      rw [← hL] at hu
      obtain ⟨k, k1, k2, _⟩ := (h.mem u hu).at_
      omega
  obtain ⟨m1, m2, m3⟩ := whileS_most cMost (runS (addS (begS x t) t)).1.fL.length (runS (addS (begS x t) t)).1
  unfold putS
  rw [if_neg c1, c2, if_neg (by simp)]
  refine ⟨rfl, while_jo _ _ _ (run_jo (add_jo h hb ht hk)), ?_, m3, m2⟩
  simp only
  rw [List.append_assoc, while_app]
  have := runL_app (addS (begS x t) t).fL (addS (begS x t) t).fg
  show (runL (addS (begS x t) t).fg (addS (begS x t) t).fL).1 ++ (runL (addS (begS x t) t).fg (addS (begS x t) t).fL).2.2 = _
  rw [this, ← hL]; rfl

theorem tick_jo {B : Int} {ab : Nat → Bool} {i : Nat} {x : RBf} (h : Jo B ab i x) (hv : Inv x) {now : Int} (hn : i + x.fq ≤ now) :
    (tickS x now).1.fL = [] ∧ (tickS x now).1.fe ≤ gapN ab i ∧ Jo B ab i (tickS x now).1 ∧ (tickS x now).2 = x.fL := by
  have hj : Jo B ab i (tickS x now).1 := while_jo _ _ _ h
  obtain ⟨m1, m2, m3⟩ := whileS_most (cTick now) x.fL.length x
  have hc := (while_inv (cTick now) (cTick_ne now) hv).2
  have he : (tickS x now).1.fL = [] := by
    cases hL : (tickS x now).1.fL with
    | nil => rfl
    | cons t r =>
      obtain ⟨k, k1, k2, k3, k4⟩ := (hj.mem t (by rw [hL]; exact .head _)).at_
      have hc' : cTick now (tickS x now).1 = false := hc
      unfold cTick at hc'
      rw [hL] at hc'
      have h3 : (tickS x now).1.fq = x.fq := m3
      simp only [h3, k4] at hc'
      rw [decide_eq_true (by omega)] at hc'
      cases hc'
  have ha := while_app (cTick now) x.fL.length x
  have ha' : (tickS x now).2 ++ (tickS x now).1.fL = x.fL := ha
  rw [he, List.append_nil] at ha'
  obtain ⟨a, h1, h2, h3⟩ := hj.nx
  refine ⟨he, ?_, hj, ha'⟩
  rw [h3]
  have mono : ∀ d : Nat, gapN ab a ≤ gapN ab (a + d) := fun d => by
    induction d with
    | zero => exact Int.le_refl _
    | succ d ih =>
      show _ ≤ gapN ab (a + d) + (if ab (a + d) = true then 1 else 0)
      split <;> omega
  have := mono (i - a)
  have e : a + (i - a) = i := by omega
  rw [e] at this; exact this

/-! ### How many pictures can be whole -/
def cntM (L : List Came) : List Thg → Int
  | [] => 0
  | t :: r => (if (findP L t.fAt).fA = true then 1 else 0) + cntM L r
def cntP : List Pk → Int
  | [] => 0
  | p :: r => (if p.fA = true then 1 else 0) + cntP r
theorem cntP_app : ∀ (a b : List Pk), cntP (a ++ b) = cntP a + cntP b
  | [], b => by simp [cntP]
  | p :: a, b => by
    show _ + cntP (a ++ b) = _ + cntP a + cntP b
    rw [cntP_app a b]; omega
theorem cntM_app (L : List Came) : ∀ (a b : List Thg), cntM L (a ++ b) = cntM L a + cntM L b
  | [], b => by simp [cntM]
  | t :: a, b => by
    show _ + cntM L (a ++ b) = _ + cntM L a + cntM L b
    rw [cntM_app L a b]; omega
theorem cntM_perm (L : List Came) {a b : List Thg} (h : a.Perm b) : cntM L a = cntM L b := by
  induction h with
  | nil => rfl
  | cons t _ ih => show _ + cntM L _ = _ + cntM L _; rw [ih]
  | swap t u r => show _ + (_ + cntM L r) = _ + (_ + cntM L r); omega
  | trans _ _ i1 i2 => exact i1.trans i2
theorem cntM_cong {L L' : List Came} : ∀ {a : List Thg}, (∀ t ∈ a, findP L t.fAt = findP L' t.fAt) → cntM L a = cntM L' a
  | [], _ => rfl
  | t :: r, h => by
    show _ + cntM L r = _ + cntM L' r
    rw [cntM_cong (fun u hu => h u (.tail _ hu)), h t (.head _)]

theorem out_mark {c : Tp} (hc : c.fu = true) {o : List Un} {w l : Int} {u : Un} (hu : u.fA = false) : (putP c o w l u).out = [] := by
  have hC : ∀ (o : List Un) (l : Int), (putC c o w l u).out = [] := fun o l => by
    unfold putC
    split
    · rfl
    · rw [if_pos ⟨hc, hu⟩]
  unfold putP
  split
  · exact hC _ _
  · split
    · rfl
    · exact hC _ _
theorem frames_cnt {c : Tp} (hc : c.fu = true) (L : List Came) : ∀ (r : List Thg) (σ : FS), lenL (framesM c L r σ).2 ≤ cntM L r
  | [], _ => Int.le_refl _
  | t :: r, σ => by
    have ih := frames_cnt hc L r (stepM c L σ t).1
    unfold framesM
    simp only
    show _ ≤ (if (findP L t.fAt).fA = true then 1 else 0) + cntM L r
    by_cases hm : (findP L t.fAt).fA = true
    · rw [if_pos hm]
      split
      · simp only [lenL_def, List.length_cons, Int.natCast_add] at ih ⊢
        omega
      · omega
    · rw [if_neg hm]
      have hu : (unitM c.fu σ.ck L t).1.fA = false := by
        have hm' : (findP L t.fAt).fA = false := by simpa using hm
        show ((findP L t.fAt).fA && _) = false
        rw [hm']; rfl
      have h0 : (stepM c L σ t).2 = [] := out_mark hc hu
      rw [h0, if_neg (by decide)]
      omega
end Go.Proofs

/- What waits, and goes out: the buffer over a map, and the document's over a list, answer alike. No condition. -/
import Derived.Test.YtbijdlgffebenaaM04
import Derived.Test.YtbijdlgffebenaaM08
namespace Go.Proofs
open Go.Ab
abbrev Thg := Antiphonref09Thing
abbrev RBf := Antiphonref09Buffer

/-- Rising, all behind n. -/
def Up : Int → List Thg → Prop
  | _, [] => True
  | n, t :: r => n < t.fAt ∧ Up t.fAt r
theorem Up.weak {n n' : Int} {L : List Thg} (h : Up n L) (hn : n' ≤ n) : Up n' L := by
  cases L with
  | nil => trivial
  | cons t r => exact ⟨by have := h.1; omega, h.2⟩
theorem Up.mem {n : Int} : ∀ {L : List Thg}, Up n L → ∀ t ∈ L, n < t.fAt
  | t :: r, h, u, hu => by
    cases hu with
    | head => exact h.1
    | tail _ hu => have := h.2.mem u hu; have := h.1; omega
theorem Up.pair {n : Int} : ∀ {L : List Thg}, Up n L → (L.map (·.fAt)).Pairwise (· < ·)
  | [], _ => .nil
  | t :: r, h => List.pairwise_cons.2 ⟨fun a ha => by
      obtain ⟨u, hu, rfl⟩ := List.mem_map.1 ha
      exact h.2.mem u hu, h.2.pair⟩
theorem Up.nodup {n : Int} {L : List Thg} (h : Up n L) : (L.map (·.fAt)).Nodup := h.pair.imp fun h => by omega

def runL : Int → List Thg → List Thg × Int × List Thg
  | n, [] => ([], n, [])
  | n, t :: r => if t.fAt = n then (t :: (runL (n + 1) r).1, (runL (n + 1) r).2.1, (runL (n + 1) r).2.2) else ([], n, t :: r)

theorem runL_t {n : Int} {t : Thg} {r : List Thg} (e : t.fAt = n) : runL n (t :: r) = (t :: (runL (n + 1) r).1, (runL (n + 1) r).2.1, (runL (n + 1) r).2.2) := if_pos e
theorem runL_f {n : Int} {t : Thg} {r : List Thg} (e : t.fAt ≠ n) : runL n (t :: r) = ([], n, t :: r) := if_neg e
/-- Things with the numbers from n on, one by one. -/
def From : Int → List Thg → Prop
  | _, [] => True
  | n, t :: r => t.fAt = n ∧ From (n + 1) r

theorem runL_spec : ∀ (L : List Thg) (n : Int), Up (n - 1) L → Up (runL n L).2.1 (runL n L).2.2 ∧ L = (runL n L).1 ++ (runL n L).2.2 ∧ (runL n L).2.1 = n + (runL n L).1.length ∧ From n (runL n L).1
  | [], n, _ => ⟨trivial, rfl, by simp [runL], trivial⟩
  | t :: r, n, h => by
    by_cases e : t.fAt = n
    · rw [runL_t e]
      have h2 : Up (n + 1 - 1) r := by have := h.2; rw [e] at this; simpa using this
      obtain ⟨q1, q2, q3, q4⟩ := runL_spec r (n + 1) h2
      refine ⟨q1, ?_, ?_, e, q4⟩
      · simp only [List.cons_append]; rw [← q2]
      · simp only [q3, List.length_cons]; omega
    · rw [runL_f e]
      have h1 := h.1
      exact ⟨⟨by show n < t.fAt; omega, h.2⟩, rfl, by simp, trivial⟩

def MapOf (m : List (Int × Thg)) (L : List Thg) : Prop := m.Perm (L.map fun t => (t.fAt, t))
theorem MapOf.keys {m : List (Int × Thg)} {L : List Thg} (h : MapOf m L) : (keysM m).Perm (L.map (·.fAt)) := by
  have := keysM_perm h
  unfold keysM at this ⊢
  rw [List.map_map] at this
  exact this
theorem MapOf.len {m : List (Int × Thg)} {L : List Thg} (h : MapOf m L) : lenL m = lenL L := by
  rw [lenL_perm h, lenL_map]
theorem MapOf.nodup {m : List (Int × Thg)} {L : List Thg} (h : MapOf m L) {n : Int} (hu : Up n L) : (keysM m).Nodup := h.keys.nodup_iff.2 hu.nodup
theorem MapOf.has {m : List (Int × Thg)} {L : List Thg} (h : MapOf m L) {k : Int} : k ∈ keysM m ↔ ∃ t ∈ L, t.fAt = k := by
  rw [h.keys.mem_iff, List.mem_map]
theorem MapOf.get {m : List (Int × Thg)} {L : List Thg} (h : MapOf m L) {n : Int} (hu : Up n L) {t z : Thg} (ht : t ∈ L) : getM eqI t.fAt z m = t :=
  getM_of (h.nodup hu) (h.mem_iff.2 (List.mem_map.2 ⟨t, ht, rfl⟩))

theorem need_app {α : Type} {a b : Int} (x : Option α) (_ha : 0 ≤ a) (_hb : 0 ≤ b) (h : a + b ≤ 4000000) : need (AppB a b 32) x = x := need_t ⟨by omega, by omega⟩
theorem lenL_def {α : Type} (l : List α) : lenL l = (l.length : Int) := rfl
theorem nthI_zero {α : Type} [Inhabited α] (a : α) (l : List α) : nthI (a :: l) 0 = a := rfl
theorem cutL_tail {α : Type} (a : α) (l : List α) : cutL (a :: l) 1 (lenL (a :: l)) = l := by
  simp [cutL, lenL]

/-- The document's run. -/
theorem rrun (mo wa lo : Int) (be : Bool) : ∀ (L acc : List Thg) (ep : Nat) (n : Int), Up (n - 1) L → 0 ≤ n → n + L.length ≤ 4000000000000 → acc.length + L.length ≤ 3000000 →
    ∃ ep', loopF gRef09Run.loop1 (ep, acc, ⟨mo, wa, be, n, L, lo⟩) = some (.go (ep', acc ++ (runL n L).1, ⟨mo, wa, be, (runL n L).2.1, (runL n L).2.2, lo⟩))
  | [], acc, ep, n, _, _, _, _ => by
    refine ⟨ep, ?_⟩
    rw [loopF_eq]
    have : gRef09Run.loop1 (ep, acc, ⟨mo, wa, be, n, [], lo⟩) = some (.out (.go (ep, acc, ⟨mo, wa, be, n, [], lo⟩))) := by
      simp [gRef09Run.loop1, ltI]
    rw [this]; simp [runL]
  | t :: r, acc, ep, n, hu, h0, hn, ha => by
    simp only [List.length_cons, Int.natCast_add, Int.natCast_one] at hn ha
    have hl : lenL (t :: r) = (r.length : Int) + 1 := by simp [lenL]
    have hp : ltI 0 (lenL (t :: r)) = true := ltI_t (by rw [hl]; omega)
    have hi : InB 0 (lenL (t :: r)) := ⟨by omega, by rw [hl]; omega⟩
    rw [loopF_eq]
    by_cases e : t.fAt = n
    · rw [runL_t e]
      have hu2 : Up (n + 1 - 1) r := by have := hu.2; rw [e] at this; simpa using this
      obtain ⟨ep', q⟩ := rrun mo wa lo be r (acc ++ [t]) (ep + 1) (n + 1) hu2 (by omega) (by omega) (by simp; omega)
      refine ⟨ep', ?_⟩
      have : gRef09Run.loop1 (ep, acc, ⟨mo, wa, be, n, t :: r, lo⟩) = some (.go (ep + 1, acc ++ [t], ⟨mo, wa, be, n + 1, r, lo⟩)) := by
        unfold gRef09Run.loop1
        simp only [hp, nthI_zero, eqI_t e, pickB_t, cond_true]
        rw [need_t (under_of hi), need_t hi, need_app _ (lenL_nn _) (by omega) (by rw [lenL_def]; omega), need_t ⟨by omega, by rw [hl]; omega, by rw [hl]; omega⟩, cutL_tail, addI_n (by omega) (by omega)]
        rfl
      rw [this]
      simp only [q, List.append_assoc, List.cons_append, List.nil_append]
    · rw [runL_f e]
      refine ⟨ep, ?_⟩
      have : gRef09Run.loop1 (ep, acc, ⟨mo, wa, be, n, t :: r, lo⟩) = some (.out (.go (ep, acc, ⟨mo, wa, be, n, t :: r, lo⟩))) := by
        unfold gRef09Run.loop1
        simp only [hp, nthI_zero, eqI_f e, pickB_t, cond_false]
        rw [need_t (under_of hi)]
      rw [this]; simp

/-- The buffer's run. -/
theorem orun (x0 : ReorderBuffer) : ∀ (L acc : List Thg) (ep : Nat) (n : Int) (m : List (Int × Thg)), Up (n - 1) L → MapOf m L → 0 ≤ n → n + L.length ≤ 4000000000000 → acc.length + L.length ≤ 3000000 →
    ∃ ep' m', loopF (gReorderBufferRun.loop1 x0) (ep, acc, n, m) = some (.out (acc ++ (runL n L).1, ep', ⟨x0.fConfig, x0.fBegun, (runL n L).2.1, m', x0.fLost⟩)) ∧ MapOf m' (runL n L).2.2
  | [], acc, ep, n, m, _, hm, _, _, _ => by
    refine ⟨ep, m, ?_, hm⟩
    rw [loopF_eq]
    have : gReorderBufferRun.loop1 x0 (ep, acc, n, m) = some (.out (.out (acc, ep, ⟨x0.fConfig, x0.fBegun, n, m, x0.fLost⟩))) := by
      have : m = [] := List.Perm.eq_nil hm
      subst this
      simp [gReorderBufferRun.loop1]
    rw [this]; simp [runL]
  | t :: r, acc, ep, n, m, hu, hm, h0, hn, ha => by
    simp only [List.length_cons, Int.natCast_add, Int.natCast_one] at hn ha
    rw [loopF_eq]
    by_cases e : t.fAt = n
    · rw [runL_t e]
      have hu2 : Up (n + 1 - 1) r := by have := hu.2; rw [e] at this; simpa using this
      have hget : getM eqI n (Antiphonref09Thing.mk 0 ⟨⟨[]⟩⟩ 0) m = t := by rw [← e]; exact hm.get hu (.head _)
      have hdel : MapOf (delM eqI n m) r := delM_of (v := t) (hm.nodup hu) (by have := hm; unfold MapOf at this; simpa [e] using this)
      obtain ⟨ep', m', q, hq⟩ := orun x0 r (acc ++ [t]) (ep + 1) (n + 1) (delM eqI n m) hu2 hdel (by omega) (by omega) (by simp; omega)
      refine ⟨ep', m', ?_, hq⟩
      have : gReorderBufferRun.loop1 x0 (ep, acc, n, m) = some (.go (ep + 1, acc ++ [t], n + 1, delM eqI n m)) := by
        unfold gReorderBufferRun.loop1
        simp only [hasM_t (hm.has.2 ⟨t, .head _, e⟩), notB_t, cond_false, hget]
        rw [need_app _ (lenL_nn _) (by omega) (by rw [lenL_def]; omega), addI_n (by omega) (by omega)]
        rfl
      rw [this]
      simp only [q, List.append_assoc, List.cons_append, List.nil_append]
    · rw [runL_f e]
      refine ⟨ep, m, ?_, hm⟩
      have hno : n ∉ keysM m := fun hk => by
        obtain ⟨u, hu', he⟩ := hm.has.1 hk
        have h1 := hu.1
        cases hu' with
        | head => exact e he
        | tail _ hu' => have := hu.2.mem u hu'; omega
      have : gReorderBufferRun.loop1 x0 (ep, acc, n, m) = some (.out (.out (acc, ep, ⟨x0.fConfig, x0.fBegun, n, m, x0.fLost⟩))) := by
        unfold gReorderBufferRun.loop1
        simp only [hasM_f hno, notB_f, cond_true]
      rw [this]; simp

/-- What both hold. -/
structure Rel (b : ReorderBuffer) (x : RBf) : Prop where
  c : b.fConfig = ⟨x.fMost, x.fWait⟩
  bg : b.fBegun = x.fBegun
  nx : b.fNext = x.fNext
  lo : b.fLost = x.fLost
  mp : MapOf b.fOf x.fL
/-- What holds of it, between the calls. -/
structure Ok (x : RBf) : Prop where
  up : Up x.fNext x.fL
  nn : 0 ≤ x.fNext
  nb : x.fNext ≤ 1000000000000
  l0 : 0 ≤ x.fLost
  l1 : x.fLost ≤ x.fNext
  at_ : ∀ t ∈ x.fL, t.fAt ≤ 999999999999 ∧ 0 ≤ t.fTick ∧ t.fTick ≤ 1000000000000
  len : x.fL.length ≤ 1000000

def skipS (x : RBf) : RBf × List Thg :=
  match x.fL with
  | [] => (x, [])
  | t :: _ => (⟨x.fMost, x.fWait, x.fBegun, (runL t.fAt x.fL).2.1, (runL t.fAt x.fL).2.2, x.fLost + (t.fAt - x.fNext)⟩, (runL t.fAt x.fL).1)

theorem up_head {t : Thg} {r : List Thg} {n : Int} (h : Up n (t :: r)) : Up (t.fAt - 1) (t :: r) := ⟨by omega, h.2⟩

theorem runL_len {n : Int} {L : List Thg} (h : Up (n - 1) L) : (runL n L).1.length + (runL n L).2.2.length = L.length := by
  have := (runL_spec L n h).2.1
  conv => rhs; rw [this]
  simp

theorem from_last {n : Int} : ∀ {L : List Thg}, From n L → ∀ b : Int, (∀ t ∈ L, t.fAt ≤ b) → L ≠ [] → n + L.length ≤ b + 1
  | [], _, _, _, h => absurd rfl h
  | [t], h, b, hb, _ => by
    have := hb t (.head _)
    have := h.1
    simp; omega
  | t :: u :: r, h, b, hb, _ => by
    have := from_last (n := n + 1) (L := u :: r) h.2 b (fun v hv => hb v (.tail _ hv)) (by simp)
    simp only [List.length_cons] at this ⊢
    omega

theorem skip_ok {x : RBf} (h : Ok x) {t : Thg} {r : List Thg} (hL : x.fL = t :: r) : Ok (skipS x).1 ∧ (skipS x).2.length + (skipS x).1.fL.length = x.fL.length ∧ 0 < (skipS x).2.length := by
  have hu := h.up
  rw [hL] at hu
  have hu1 := up_head hu
  obtain ⟨q1, q2, q3, q4⟩ := runL_spec (t :: r) t.fAt hu1
  have hlen := runL_len hu1
  have h1 := hu.1
  have ha := h.at_
  rw [hL] at ha
  have hpos : 0 < (runL t.fAt (t :: r)).1.length := by unfold runL; simp
  have hsub : ∀ u ∈ (runL t.fAt (t :: r)).2.2, u ∈ t :: r := fun u hu => by rw [q2]; exact List.mem_append_right _ hu
  have hsub1 : ∀ u ∈ (runL t.fAt (t :: r)).1, u ∈ t :: r := fun u hu => by rw [q2]; exact List.mem_append_left _ hu
  unfold skipS
  rw [hL]
  have hl := h.len
  rw [hL] at hl
  have h0 := h.l0
  have h01 := h.l1
  have hnn := h.nn
  have hlast := from_last q4 999999999999 (fun u hu => (ha u (hsub1 u hu)).1) (by intro e; rw [e] at hpos; simp at hpos)
  refine ⟨⟨q1, ?_, ?_, ?_, ?_, fun u hu => ha u (hsub u hu), by simp only; omega⟩, hlen, hpos⟩
  · simp only [q3]; omega
  · simp only [q3]
    omega
  · simp only; omega
  · simp only [q3]; omega
end Go.Proofs

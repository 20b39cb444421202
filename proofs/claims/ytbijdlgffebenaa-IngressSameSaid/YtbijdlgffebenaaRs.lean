/- Skipping, putting, the clock, and what is missing: both buffers answer alike. No condition. -/
import Derived.Test.YtbijdlgffebenaaM04
import Derived.Test.YtbijdlgffebenaaM08
import Derived.Test.YtbijdlgffebenaaRq
import Derived.Test.YtbijdlgffebenaaM11
namespace Go.Proofs
open Go.Ab

theorem rskip {x : RBf} (h : Ok x) {t : Thg} {r : List Thg} (hL : x.fL = t :: r) : ∃ ep, gRef09Skip x = some ((skipS x).1, (skipS x).2, ep) := by
  obtain ⟨mo, wa, be, n, L, lo⟩ := x
  simp only at hL
  subst hL
  have hu := up_head h.up
  have ha := h.at_ t (.head _)
  have h1 : n < t.fAt := h.up.1
  have hnn := h.nn
  have h0 := h.l0
  have h01 := h.l1
  have hlen := h.len
  simp only at hnn h0 h01 hlen
  have hi : InB 0 (lenL (t :: r)) := ⟨by omega, by rw [lenL_def]; simp only [List.length_cons]; omega⟩
  obtain ⟨ep, q⟩ := rrun mo wa (lo + (t.fAt - n)) be (t :: r) [] 0 t.fAt hu (by omega) (by simp only [List.length_cons] at hlen ⊢; omega) (by simp only [List.length_cons, List.length_nil] at hlen ⊢; omega)
  refine ⟨ep, ?_⟩
  unfold gRef09Skip
  simp only [nthI_zero]
  rw [need_t hi, need_t hi, subI_n (by omega) (by omega), addI_n (by omega) (by omega)]
  unfold gRef09Run
  rw [q]
  simp [skipS]

theorem ofirst {b : ReorderBuffer} {x : RBf} (hr : Rel b x) (h : Ok x) {t : Thg} {r : List Thg} (hL : x.fL = t :: r) : gReorderBufferFirst b = some t.fAt := by
  have hk := hr.mp.keys
  rw [hL] at hk
  have hu := h.up
  rw [hL] at hu
  have hlen := h.len
  rw [hL] at hlen
  have hmem : ∀ k ∈ keysM b.fOf, ∃ u ∈ t :: r, u.fAt = k := fun k q => by
    have := hr.mp.has.1 q
    rw [hL] at this; exact this
  have hkl : (keysM b.fOf).length = r.length + 1 := by rw [hk.length_eq]; simp
  have hb : KeysB (keysM b.fOf) := KeysB_of (fun k q => by
    obtain ⟨u, hu1, rfl⟩ := hmem k q
    have h1 := hu.mem u hu1
    have h2 := h.at_ u (by rw [hL]; exact hu1)
    have h3 := h.nn
    exact ⟨by omega, by omega⟩) (by simp only [List.length_cons] at hlen; omega)
  have hm : MinB (keysM b.fOf) := ⟨by omega, by simp only [List.length_cons] at hlen; omega⟩
  unfold gReorderBufferFirst
  rw [need_t hb, need_t hm, minL_of (m := t.fAt) (hk.mem_iff.2 (by simp)) fun k q => by
    obtain ⟨u, hu1, rfl⟩ := hmem k q
    cases hu1 with
    | head => exact Int.le_refl _
    | tail _ hu1 => exact Int.le_of_lt (hu.2.mem u hu1)]

theorem oskip {b : ReorderBuffer} {x : RBf} (hr : Rel b x) (h : Ok x) {t : Thg} {r : List Thg} (hL : x.fL = t :: r) : ∃ ep b', gReorderBufferSkip b = some ((skipS x).2, ep, b') ∧ Rel b' (skipS x).1 := by
  have hf := ofirst hr h hL
  have hu := h.up
  rw [hL] at hu
  have hu1 := up_head hu
  have ha := h.at_ t (by rw [hL]; exact .head _)
  have h1 := hu.1
  have hnn := h.nn
  have h0 := h.l0
  have h01 := h.l1
  have hlen := h.len
  rw [hL] at hlen
  obtain ⟨c1, c2, c3, c4, c5⟩ := hr
  rw [hL] at c5
  have hlo : addI .i64 b.fLost (subI .i64 t.fAt b.fNext) = x.fLost + (t.fAt - x.fNext) := by
    rw [c3, c4, subI_n (by omega) (by omega), addI_n (by omega) (by omega)]
  obtain ⟨ep, m', q, hq⟩ := orun ⟨b.fConfig, b.fBegun, t.fAt, b.fOf, x.fLost + (t.fAt - x.fNext)⟩ (t :: r) [] 0 t.fAt b.fOf hu1 c5 (by omega) (by simp only [List.length_cons] at hlen ⊢; omega) (by simp only [List.length_cons, List.length_nil] at hlen ⊢; omega)
  refine ⟨ep, ⟨b.fConfig, b.fBegun, (runL t.fAt (t :: r)).2.1, m', x.fLost + (t.fAt - x.fNext)⟩, ?_, ?_⟩
  · unfold gReorderBufferSkip
    rw [hf]
    simp only [bind_so, hlo]
    unfold gReorderBufferRun
    rw [q]
    simp [skipS, hL]
  · refine ⟨?_, ?_, ?_, ?_, ?_⟩ <;> simp only [skipS, hL]
    · exact c1
    · exact c2
    · exact hq

/-- While c says so, what is first is skipped to. -/
def whileS (c : RBf → Bool) : Nat → RBf → RBf × List Thg
  | 0, x => (x, [])
  | f + 1, x => if c x = true then ((whileS c f (skipS x).1).1, (skipS x).2 ++ (whileS c f (skipS x).1).2) else (x, [])

theorem while_rel {S T : Type} {body : S → Option (Fl S T)} (c : RBf → Bool) (hc : ∀ x, c x = true → x.fL ≠ []) (I : S → List Thg → RBf → Prop) (O : T → List Thg → RBf → Prop)
    (hgo : ∀ s acc x, I s acc x → Ok x → c x = true → acc.length + x.fL.length ≤ 2000000 → ∃ s', body s = some (.go s') ∧ I s' (acc ++ (skipS x).2) (skipS x).1)
    (hout : ∀ s acc x, I s acc x → Ok x → c x = false → ∃ t, body s = some (.out t) ∧ O t acc x) :
    ∀ (f : Nat) (x : RBf) (acc : List Thg) (s : S), x.fL.length ≤ f → I s acc x → Ok x → acc.length + x.fL.length ≤ 2000000 →
      ∃ t, loopF body s = some t ∧ O t (acc ++ (whileS c f x).2) (whileS c f x).1
  | 0, x, acc, s, hl, hI, ho, _ => by
    have hL : x.fL = [] := List.eq_nil_of_length_eq_zero (by omega)
    have hcf : c x = false := by
      cases h : c x with
      | false => rfl
      | true => exact absurd hL (hc x h)
    obtain ⟨t, h1, h2⟩ := hout s acc x hI ho hcf
    exact ⟨t, by rw [loopF_eq, h1], by simpa [whileS] using h2⟩
  | f + 1, x, acc, s, hl, hI, ho, hb => by
    cases h : c x with
    | false =>
      obtain ⟨t, h1, h2⟩ := hout s acc x hI ho h
      exact ⟨t, by rw [loopF_eq, h1], by simpa [whileS, h] using h2⟩
    | true =>
      have hne := hc x h
      cases hL : x.fL with
      | nil => exact absurd hL hne
      | cons t r =>
        obtain ⟨q1, q2, q3⟩ := skip_ok ho hL
        obtain ⟨s', h1, h2⟩ := hgo s acc x hI ho h hb
        obtain ⟨u, h3, h4⟩ := while_rel c hc I O hgo hout f (skipS x).1 (acc ++ (skipS x).2) s' (by omega) h2 q1 (by simp only [List.length_append]; omega)
        refine ⟨u, by rw [loopF_eq, h1]; exact h3, ?_⟩
        simp only [whileS, h, if_true]
        rw [← List.append_assoc]; exact h4

/-! ### Of the buffer: its state in a loop -/
abbrev OSt := List Thg × ReorderConfig × Bool × Int × Int × List (Int × Thg)
def OI (s : OSt) (acc : List Thg) (x : RBf) : Prop := s.1 = acc ∧ Rel ⟨s.2.1, s.2.2.1, s.2.2.2.1, s.2.2.2.2.2, s.2.2.2.2.1⟩ x

def cMost (x : RBf) : Bool := decide (x.fMost < lenL x.fL)
theorem skip_step {s : OSt} {acc : List Thg} {x : RBf} (hI : OI s acc x) (h : Ok x) (hne : x.fL ≠ []) (hb : acc.length + x.fL.length ≤ 2000000) :
    ∃ ep b', gReorderBufferSkip ⟨s.2.1, s.2.2.1, s.2.2.2.1, s.2.2.2.2.2, s.2.2.2.2.1⟩ = some ((skipS x).2, ep, b') ∧ OI (s.1 ++ (skipS x).2, b'.fConfig, b'.fBegun, b'.fNext, b'.fLost, b'.fOf) (acc ++ (skipS x).2) (skipS x).1 ∧
      AppB (lenL s.1) (lenL (skipS x).2) 32 := by
  cases hL : x.fL with
  | nil => exact absurd hL hne
  | cons t r =>
    obtain ⟨q1, q2, q3⟩ := skip_ok h hL
    obtain ⟨ep, b', h1, h2⟩ := oskip hI.2 h hL
    refine ⟨ep, b', h1, ⟨by rw [hI.1], h2⟩, ?_⟩
    rw [hI.1, lenL_def, lenL_def]
    exact ⟨by omega, by omega⟩

theorem oput_loop (f : Nat) (x : RBf) (acc : List Thg) (s : OSt) (hl : x.fL.length ≤ f) (hI : OI s acc x) (h : Ok x) (hm : 0 ≤ x.fMost) (hb : acc.length + x.fL.length ≤ 2000000) :
    ∃ s', loopF gReorderBufferPut.loop2 s = some (.go s') ∧ OI s' (acc ++ (whileS cMost f x).2) (whileS cMost f x).1 := by
  have hmost : ∀ y, cMost y = true → 0 ≤ y.fMost → y.fL ≠ [] := fun y h1 h2 e => by
    simp only [cMost, e, lenL_nil, decide_eq_true_eq] at h1; omega
  have := while_rel (body := gReorderBufferPut.loop2) (fun y => cMost y && decide (0 ≤ y.fMost)) (fun y hy => by
      simp only [Bool.and_eq_true, decide_eq_true_eq] at hy
      exact hmost y hy.1 hy.2) (fun s acc y => OI s acc y ∧ 0 ≤ y.fMost) (fun t acc y => ∃ s', t = .go s' ∧ OI s' acc y ∧ 0 ≤ y.fMost)
    (fun s acc y ⟨hI, hm⟩ ho hc hb => by
      simp only [Bool.and_eq_true, decide_eq_true_eq] at hc
      obtain ⟨ep, b', q1, q2, q3⟩ := skip_step hI ho (hmost y hc.1 hm) hb
      refine ⟨_, ?_, q2, ?_⟩
      · unfold gReorderBufferPut.loop2
        have h1 : ltI s.2.1.fMost (lenL s.2.2.2.2.2) = true := by
          have h2 := hI.2.c
          have h3 := hI.2.mp.len
          simp only at h2 h3
          rw [h2, h3]; exact hc.1
        rw [h1]
        simp only [cond_true, q1, bind_so]
        rw [need_t q3]; rfl
      · cases hL : y.fL with
        | nil => exact absurd hL (hmost y hc.1 hm)
        | cons t r => simpa [skipS, hL] using hm)
    (fun s acc y ⟨hI, hm⟩ ho hc => by
      have hc : cMost y = false := by
        cases hh : cMost y with
        | false => rfl
        | true => simp [hh, hm] at hc
      refine ⟨_, ?_, s, rfl, hI, hm⟩
      unfold gReorderBufferPut.loop2
      have h1 : ltI s.2.1.fMost (lenL s.2.2.2.2.2) = false := by
        have h2 := hI.2.c
        have h3 := hI.2.mp.len
        simp only at h2 h3
        rw [h2, h3]; exact hc
      rw [h1]; rfl) f x acc s hl ⟨hI, hm⟩ h hb
  obtain ⟨t, h1, s', rfl, h2, h3⟩ := this
  have e : ∀ (f : Nat) (y : RBf), 0 ≤ y.fMost → whileS (fun y => cMost y && decide (0 ≤ y.fMost)) f y = whileS cMost f y := by
    intro f
    induction f with
    | zero => intro y _; rfl
    | succ f ih =>
      intro y hy
      simp only [whileS, hy, decide_true, Bool.and_true]
      cases hh : cMost y with
      | false => rfl
      | true =>
        have : 0 ≤ (skipS y).1.fMost := by
          unfold skipS
          split <;> exact hy
        simp only [if_true, ih _ this]
  rw [e f x hm] at h2
  exact ⟨s', h1, h2⟩

end Go.Proofs

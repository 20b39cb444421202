/- Lists of lists, as abstract values. No condition. -/
import Derived.Test.YtnoeflijefijcaaNx
namespace Go.Ab
/-! ### One state says what another one says: twice -/
theorem Weak.trans {a b : AV} (h : Weak a b) : ∀ {c : AV}, Weak b c → Weak a c := by
  induction h with
  | refl a => intro c h; exact h
  | tok els tok =>
    intro c h
    cases h with
    | refl => exact .tok _ _
    | tok => exact .tok _ _
  | agg l l' hl h ih =>
    intro c h'
    cases h' with
    | refl => exact .agg _ _ hl h
    | agg _ l'' hl' h'' => exact .agg _ _ (hl.trans hl') fun j h1 h2 => ih j h1 (by omega) (h'' j (by omega) h2)
  | tup l l' hl h ih =>
    intro c h'
    cases h' with
    | refl => exact .tup _ _ hl h
    | tup _ l'' hl' h'' => exact .tup _ _ (hl.trans hl') fun j h1 h2 => ih j h1 (by omega) (h'' j (by omega) h2)
theorem WObj.trans {a b c : AObj} (h : WObj a b) (h' : WObj b c) : WObj a c := by
  cases h with
  | refl => exact h'
  | dead =>
    cases h' with
    | refl => exact .dead _
    | dead => exact .dead _
  | mapr es vis cur t =>
    cases h' with
    | refl => exact .mapr _ _ _ _
    | dead => exact .dead _
  | blk l l' hl h =>
    cases h' with
    | refl => exact .blk _ _ hl h
    | dead => exact .dead _
    | blk _ l'' hl' h'' => exact .blk _ _ (hl.trans hl') fun j h1 h2 => (h j h1 (by omega)).trans (h'' j (by omega) h2)
theorem WMem.trans {a b : List AObj} (h : WMem a b) : ∀ {c : List AObj}, WMem b c → WMem a c := by
  induction h with
  | nil => intro c h; exact h
  | cons h _ ih =>
    intro c h'
    cases h' with
    | cons q r => exact .cons (h.trans q) (ih r)
theorem WMem.take {a b : List AObj} (h : WMem a b) : ∀ n : Nat, WMem (a.take n) (b.take n) := by
  induction h with
  | nil => intro n; simp only [List.take_nil]; exact .nil
  | cons h _ ih =>
    intro n
    cases n with
    | zero => exact .nil
    | succ n => exact .cons h (ih n)
theorem subE_mem {A : Env} : ∀ {A' : Env}, subE A A' → ∀ e ∈ A', e.tag = none ∧ ∃ av, ent A e.t = some (none, av) ∧ Weak av e.av
  | ⟨t, tag, av⟩ :: r, h, e, he => by
    obtain ⟨h1, h2⟩ := h
    rcases List.mem_cons.1 he with rfl | he
    · split at h1
      · rename_i av' htag hent
        exact ⟨htag, av', hent, h1⟩
      · exact h1.elim
    · exact subE_mem h2 e he
theorem subE_of {A : Env} : ∀ {A' : Env}, (∀ e ∈ A', e.tag = none ∧ ∃ av, ent A e.t = some (none, av) ∧ Weak av e.av) → subE A A'
  | [], _ => trivial
  | ⟨t, tag, av⟩ :: r, h => by
    obtain ⟨h1, av', h2, h3⟩ := h _ (.head _)
    simp only at h1 h2 h3
    refine ⟨?_, subE_of fun e he => h e (.tail _ he)⟩
    simp only [h1, h2]
    exact h3
theorem Conv.trans {B m m' : Nat} {σ σ' σ'' : St} (h : Conv B m σ σ') (h' : Conv B m' σ' σ'') : Conv B m' σ σ'' := by
  obtain ⟨a1, a2, a3, a4, a5, a6⟩ := h
  obtain ⟨b1, b2, b3, b4, b5, b6⟩ := h'
  have hl := a5.length
  rw [List.length_take] at hl
  have hm : m' ≤ m := by omega
  refine ⟨b1, by omega, subE_of fun e he => ?_, b4, ?_, b6⟩
  · obtain ⟨e1, av, e2, e3⟩ := subE_mem b3 e he
    obtain ⟨_, av', e5, e6⟩ := subE_mem a3 _ (ent_mem e2)
    exact ⟨e1, av', e5, e6.trans e3⟩
  · have := a5.take m'
    rw [List.take_take, Nat.min_eq_left hm] at this
    exact this.trans b5
/-! ### Rows of numbers in blocks of one's own, as simp leaves them -/
end Go.Ab

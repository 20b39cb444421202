/- Numbers: masks, and sums that do not wrap round. No condition. -/
import Derived.Test.YtnoeflijefijcaaAb5
import Derived.Test.YtnoeflijefijcaaAb8
import Derived.Test.YtnoeflijefijcaaTs
import Derived.Test.YtnoeflijefijcaaEaD
import Derived.Test.YtnoeflijefijcaaEfD
import Derived.Test.YtnoeflijefijcaaEoD
import Derived.Test.YtnoeflijefijcaaEdD
import Derived.Test.YtnoeflijefijcaaGl
section
namespace Go.Ab
/-! ### Numbers -/
theorem wrap64_of {n : Int} (h0 : -9223372036854775808 ≤ n) (h1 : n < 9223372036854775808) : IntKind.i64.wrap n = n := by
  rw [IntKind.wrap_i64]; omega

end Go.Ab
end
section
namespace Go.Ab
theorem eqI_d (a b : Int) : eqI a b = decide (a = b) := by
  unfold eqI; by_cases h : a = b <;> simp [h]
theorem neI_d (a b : Int) : neI a b = decide (a ≠ b) := by
  unfold neI; by_cases h : a = b <;> simp [h]
theorem ltI_d (a b : Int) : ltI a b = decide (a < b) := rfl
theorem leI_d (a b : Int) : leqI a b = decide (a ≤ b) := rfl
theorem eqI_t {a b : Int} (h : a = b) : eqI a b = true := by rw [eqI_d]; exact decide_eq_true h
theorem eqI_f {a b : Int} (h : a ≠ b) : eqI a b = false := by rw [eqI_d]; exact decide_eq_false h
theorem neI_f {a b : Int} (h : a = b) : neI a b = false := by rw [neI_d]; exact decide_eq_false (fun q => q h)
theorem ltI_t {a b : Int} (h : a < b) : ltI a b = true := decide_eq_true h
theorem ltI_f {a b : Int} (h : ¬ a < b) : ltI a b = false := decide_eq_false h
theorem leI_t {a b : Int} (h : a ≤ b) : leqI a b = true := decide_eq_true h
theorem leI_f {a b : Int} (h : ¬ a ≤ b) : leqI a b = false := decide_eq_false h
theorem eqB_d (a b : Bool) : eqB a b = decide (a = b) := by cases a <;> cases b <;> rfl
theorem pickB_and (x y : Bool) : pickB x y false = (x && y) := by cases x <;> rfl
theorem pickB_or (x y : Bool) : pickB x true y = (x || y) := by cases x <;> rfl
theorem addI_n {a b : Int} (h0 : -9223372036854775808 ≤ a + b) (h1 : a + b < 9223372036854775808) : addI .i64 a b = a + b := wrap64_of h0 h1
theorem subI_n {a b : Int} (h0 : -9223372036854775808 ≤ a - b) (h1 : a - b < 9223372036854775808) : subI .i64 a b = a - b := wrap64_of h0 h1
theorem need_t {α : Type} {p : Prop} {x : Option α} (h : p) : need p x = x := by unfold need; rw [if_pos h]
@[simp] theorem flC_go {V X : Type} (v : V) (k : V → Option X) : flC (.go v) k = k v := rfl
@[simp] theorem flC_out {V X : Type} (x : X) (k : V → Option X) : flC (.out x) k = some x := rfl
@[simp] theorem bind_so {α β : Type} (x : α) (k : α → Option β) : (some x).bind k = k x := rfl
@[simp] theorem getD_so {α : Type} (x y : α) : (some x).getD y = x := rfl
theorem under_of {e : Bool} {b : Bool} {p : Prop} (h : p) : Under e b p := fun _ => h
theorem lenL_nn {α : Type} (l : List α) : 0 ≤ lenL l := by unfold lenL; omega
theorem optC_none {α β : Type} (x : α) (k : β → α) : optC (none : Option β) x k = x := rfl
theorem optC_some {α β : Type} (b : β) (x : α) (k : β → α) : optC (some b) x k = k b := rfl
theorem notB_t' : notB false = true := rfl
theorem notB_f' : notB true = false := rfl
/-- What a round must come to. -/
def RoundP {S T : Type} (I : S → Prop) (Q : T → Prop) (μ : S → Nat) (s : S) : Option (Fl S T) → Prop
  | some (.go s') => I s' ∧ μ s' < μ s
  | some (.out t) => Q t
  | none => False
theorem loop_ends {S T : Type} {body : S → Option (Fl S T)} (I : S → Prop) (Q : T → Prop) (μ : S → Nat) (h : ∀ s, I s → RoundP I Q μ s (body s)) (s : S) (hs : I s) : ∃ t, loopF body s = some t ∧ Q t :=
  loopF_ends I Q μ (fun s hI => by
    have q := h s hI
    cases hb : body s with
    | none => rw [hb] at q; exact q.elim
    | some f =>
      rw [hb] at q
      refine ⟨f, rfl, ?_⟩
      cases f <;> exact q) s hs
end Go.Ab
end
section
namespace Go.Proofs
open Go.Ab
end Go.Proofs
end
section
namespace Go.Ab
def ShFs (P : Program) : List TypeId → List AV → Prop
  | [], q => q = []
  | t :: ts, q => ∃ r q', q = r ++ q' ∧ ShE P t r ∧ ShFs P ts q'
theorem shFs_of {P : Program} : ∀ {ts : List TypeId} {parts : List (List AV)}, parts.length = ts.length → (∀ (j : Nat) (t : TypeId), ts[j]? = some t → ∃ r, parts[j]? = some r ∧ ShE P t r) → ShFs P ts parts.flatten
  | [], [], _, _ => rfl
  | [], _ :: _, h, _ => by simp at h
  | _ :: _, [], h, _ => by simp at h
  | t :: ts, p :: parts, h, hp => by
    obtain ⟨r, h1, h2⟩ := hp 0 t rfl
    cases h1
    exact ⟨p, parts.flatten, by simp, h2, shFs_of (by simpa using h) fun j t' ht => hp (j + 1) t' ht⟩
theorem sh_fields {P : Program} {t : TypeId} {l : List (Nat × TypeId)} {size bytes : Nat} {z q : List AV} {eq : Bool} (ht : tyOf P t = some ⟨.struct l, size, bytes, z, eq⟩) (h : ShE P t q) : ShFs P (l.map (·.2)) q := by
  unfold tyOf at ht
  split at ht
  · rename_i i d hi hd
    split at ht
    · split at ht
      · simp only [Option.some.injEq, TyI.mk.injEq] at ht
        obtain ⟨hk, _⟩ := ht
        cases d with
        | struct fs =>
          simp only [kindOf, TyK.struct.injEq] at hk
          obtain ⟨parts, h1, rfl, h3⟩ := sh_struct hd h
          refine shFs_of (by rw [h1, ← hk]; simp) fun j t' hj => ?_
          rw [← hk] at hj
          simp only [List.map_map, List.getElem?_map, Array.getElem?_toList] at hj
          cases hf : fs[j]? with
          | none => rw [hf] at hj; cases hj
          | some f =>
            rw [hf] at hj
            simp only [Option.map_some, Option.some.injEq, Function.comp_apply] at hj
            subst hj
            exact h3 j f hf
        | _ => simp [kindOf] at hk
      · cases ht
    · cases ht
  · cases ht
theorem shV_agg {P : Program} {t : TypeId} {l : List (Nat × TypeId)} {size bytes : Nat} {z : List AV} {av : AV} {eq : Bool} (ht : tyOf P t = some ⟨.struct l, size, bytes, z, eq⟩) (h : ShV P t av) : ∃ avs, av = .agg avs ∧ ShE P t avs := by
  unfold tyOf at ht
  split at ht
  · rename_i i d hi hd
    split at ht
    · split at ht
      · simp only [Option.some.injEq, TyI.mk.injEq] at ht
        obtain ⟨hk, _⟩ := ht
        cases d with
        | struct fs => exact shV_struct hd h
        | _ => simp [kindOf] at hk
      · cases ht
    · cases ht
  · cases ht
end Go.Ab
end

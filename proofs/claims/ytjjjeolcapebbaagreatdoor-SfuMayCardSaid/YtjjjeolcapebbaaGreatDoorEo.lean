/- Equality of fixed data, as a Bool: for runs on fixed data. No condition: over any program. -/
import Derived.Test.YtjjjeolcapebbaaGreatDoorEv
namespace Go.Ab

def all2 {α : Type} (f : α → α → Bool) : List α → List α → Bool
  | [], [] => true
  | a :: l, b :: m => f a b && all2 f l m
  | _, _ => false
theorem all2_eq {α : Type} {f : α → α → Bool} (hf : ∀ a b, f a b = true → a = b) : ∀ {l m : List α}, all2 f l m = true → l = m
  | [], [], _ => rfl
  | a :: l, b :: m, h => by
    simp only [all2, Bool.and_eq_true] at h
    rw [hf a b h.1, all2_eq hf h.2]
  | [], _ :: _, h => by cases h
  | _ :: _, [], h => by cases h
def numE : Value → Value → Bool
  | .int k n, .int k' m => decide (k = k') && decide (n = m)
  | _, _ => false
theorem numE_eq {a b : Value} (h : numE a b = true) : a = b := by
  unfold numE at h
  split at h
  · simp only [Bool.and_eq_true, decide_eq_true_eq] at h; rw [h.1, h.2]
  · cases h
def litE : Value → Value → Bool
  | .agg a, .agg b => all2 numE a.toList b.toList
  | .bool a, .bool b => a == b
  | .int k n, .int k' m => decide (k = k') && decide (n = m)
  | .string s, .string t => s.data.toList == t.data.toList
  | .pointer none, .pointer none => true
  | .slice none 0 0, .slice none 0 0 => true
  | .map none, .map none => true
  | .nilFunc, .nilFunc => true
  | .nilIface, .nilIface => true
  | _, _ => false
theorem litE_eq {a b : Value} (h : litE a b = true) : a = b := by
  unfold litE at h
  split at h
  · rename_i a b
    have e := all2_eq (fun _ _ => numE_eq) h
    simp only [Array.toList_inj] at e
    rw [e]
  · rw [eq_of_beq h]
  · simp only [Bool.and_eq_true, decide_eq_true_eq] at h; rw [h.1, h.2]
  · rename_i s t
    have e := eq_of_beq h
    obtain ⟨s⟩ := s
    obtain ⟨t⟩ := t
    simp only [Array.toList_inj] at e
    rw [e]
  all_goals first | rfl | cases h
def tokE : Tok → Tok → Bool
  | .no, .no => true
  | .nn, .nn => true
  | .full, .full => true
  | .nl, .nl => true
  | .own a b c, .own x y z => a == x && b == y && c == z
  | _, _ => false
theorem tokE_eq {a b : Tok} (h : tokE a b = true) : a = b := by
  unfold tokE at h
  split at h
  · rfl
  · rfl
  · rfl
  · rfl
  · simp only [Bool.and_eq_true, beq_iff_eq] at h; rw [h.1.1, h.1.2, h.2]
  · cases h
def avE : Nat → AV → AV → Bool
  | 0, _, _ => false
  | n + 1, a, b => match a, b with
    | .lit u, .lit v => litE u v
    | .ptr i o, .ptr j p => i == j && o == p
    | .cptr l, .cptr m => all2 (avE n) l m
    | .sl l t, .sl m u => tokE t u && all2 (all2 (avE n)) l m
    | .agg l, .agg m => all2 (avE n) l m
    | .tup l, .tup m => all2 (avE n) l m
    | .iface t v, .iface u w => t == u && avE n v w
    | .mp i, .mp j => i == j
    | .it i, .it j => i == j
    | .clo f l, .clo g m => f == g && all2 (avE n) l m
    | .slb i x, .slb j y => i == j && decide (x = y)
    | .aptr i x o s, .aptr j y p u => i == j && x == y && o == p && s == u
    | .asl i x s, .asl j y u => i == j && decide (x = y) && s == u
    | _, _ => false
theorem avE_eq : ∀ {n : Nat} {a b : AV}, avE n a b = true → a = b
  | 0, _, _, h => by cases h
  | n + 1, a, b, h => by
    have ih : ∀ a b, avE n a b = true → a = b := fun a b => avE_eq (n := n)
    unfold avE at h
    split at h
    · rw [litE_eq h]
    · simp only [Bool.and_eq_true, beq_iff_eq] at h; rw [h.1, h.2]
    · rw [all2_eq ih h]
    · simp only [Bool.and_eq_true] at h; rw [tokE_eq h.1, all2_eq (fun _ _ => all2_eq ih) h.2]
    · rw [all2_eq ih h]
    · rw [all2_eq ih h]
    · simp only [Bool.and_eq_true, beq_iff_eq] at h; rw [h.1, ih _ _ h.2]
    · rw [eq_of_beq h]
    · rw [eq_of_beq h]
    · simp only [Bool.and_eq_true, beq_iff_eq] at h; rw [h.1, all2_eq ih h.2]
    · simp only [Bool.and_eq_true, beq_iff_eq, decide_eq_true_eq] at h; rw [h.1, h.2]
    · simp only [Bool.and_eq_true, beq_iff_eq] at h; rw [h.1.1.1, h.1.1.2, h.1.2, h.2]
    · simp only [Bool.and_eq_true, beq_iff_eq, decide_eq_true_eq] at h; rw [h.1.1, h.1.2, h.2]
    · cases h

/-- Are two objects one? -/
def objE : AObj → AObj → Bool
  | .blk a, .blk b => all2 (avE 12) a b
  | .room a, .room b => a == b
  | .iter s p, .iter s' p' => s.data.toList == s'.data.toList && p == p'
  | .mapo a, .mapo b => all2 (fun x y => avE 12 x.1 y.1 && avE 12 x.2 y.2) a b
  | .mapr a v c t, .mapr b v' c' t' => all2 (fun x y => avE 12 x.1 y.1 && avE 12 x.2 y.2) a b && all2 litE v v' && t == t' && (match c, c' with
    | none, none => true
    | some x, some y => litE x y
    | _, _ => false)
  | .opq a, .opq b => decide (a.bs = b.bs) && decide (a.k = b.k)
  | .arr s a, .arr s' b => s == s' && all2 (all2 (avE 12)) a b
  | .dead, .dead => true
  | _, _ => false
theorem objE_eq {a b : AObj} (h : objE a b = true) : a = b := by
  unfold objE at h
  split at h
  · rw [all2_eq (fun _ _ => avE_eq) h]
  · rw [eq_of_beq h]
  · rename_i s p s' p'
    simp only [Bool.and_eq_true] at h
    have e := eq_of_beq h.1
    obtain ⟨s⟩ := s
    obtain ⟨s'⟩ := s'
    simp only [Array.toList_inj] at e
    rw [e, eq_of_beq h.2]
  · rw [all2_eq (fun a b q => ?_) h]
    simp only [Bool.and_eq_true] at q
    exact Prod.ext (avE_eq q.1) (avE_eq q.2)
  · rename_i c _ _ _ c' _
    simp only [Bool.and_eq_true] at h
    obtain ⟨⟨⟨h1, h2⟩, h3⟩, h4⟩ := h
    have e1 := all2_eq (fun a b q => by
      simp only [Bool.and_eq_true] at q
      exact Prod.ext (avE_eq q.1) (avE_eq q.2)) h1
    have e4 : c = c' := by
      split at h4
      · rfl
      · rw [litE_eq h4]
      · cases h4
    rw [e1, all2_eq (fun _ _ => litE_eq) h2, eq_of_beq h3, e4]
  · rename_i a b
    simp only [Bool.and_eq_true, decide_eq_true_eq] at h
    obtain ⟨x, y⟩ := a
    obtain ⟨z, w⟩ := b
    simp only at h
    rw [h.1, h.2]
  · simp only [Bool.and_eq_true] at h
    rw [eq_of_beq h.1, all2_eq (fun _ _ => all2_eq fun _ _ => avE_eq) h.2]
  · rfl
  · cases h
/-- A memory that is this one with more behind; at the place that is set aside nothing. -/
def memE : List AObj → List AObj → Bool
  | _, [] => true
  | o' :: r', o :: r => objE o' o && memE r' r
  | [], _ :: _ => false
theorem memE_spec : ∀ {M M' : List AObj}, memE M' M = true → ∃ N, M' = M ++ N
  | [], M', _ => ⟨M', rfl⟩
  | o :: r, o' :: r', h => by
    simp only [memE, Bool.and_eq_true] at h
    obtain ⟨N, q⟩ := memE_spec h.2
    exact ⟨N, by rw [objE_eq h.1, q]; rfl⟩
  | _ :: _, [], h => by cases h
/-- Does it point below m? -/
def belB (m : Nat) : Nat → AV → Bool
  | 0, _ => false
  | n + 1, a => match a with
    | .lit _ => true
    | .ptr i _ => decide (i < m)
    | .cptr l => l.all (belB m n)
    | .agg l => l.all (belB m n)
    | .tup l => l.all (belB m n)
    | .sl els .no => els.all fun q => q.all (belB m n)
    | .sl els .nn => els.all fun q => q.all (belB m n)
    | .sl els .full => els.all fun q => q.all (belB m n)
    | .iface _ v => belB m n v
    | .mp i => decide (i < m)
    | .clo _ l => l.all (belB m n)
    | .slb i _ => decide (i < m)
    | .asl i _ _ => decide (i < m)
    | .aptr i _ _ _ => decide (i < m)
    | _ => false
theorem belB_bel {m : Nat} : ∀ {n : Nat} {a : AV}, belB m n a = true → a.bel m
  | 0, _, h => by cases h
  | n + 1, a, h => by
    have ih : ∀ a, belB m n a = true → a.bel m := fun a => belB_bel (n := n)
    have il : ∀ l : List AV, l.all (belB m n) = true → belL m l := fun l h => belL_iff.2 fun a ha => ih a (List.all_eq_true.1 h a ha)
    have ill : ∀ l : List (List AV), (l.all fun q => q.all (belB m n)) = true → belLL m l := fun l h => belLL_iff.2 fun a ha => il a (List.all_eq_true.1 h a ha)
    unfold belB at h
    split at h
    · trivial
    · exact (of_decide_eq_true h : _ < m)
    · exact il _ h
    · exact il _ h
    · exact il _ h
    · exact ⟨ill _ h, trivial⟩
    · exact ⟨ill _ h, trivial⟩
    · exact ⟨ill _ h, trivial⟩
    · have q := ih _ h; exact q
    · exact (of_decide_eq_true h : _ < m)
    · exact il _ h
    · exact (of_decide_eq_true h : _ < m)
    · exact (of_decide_eq_true h : _ < m)
    · exact (of_decide_eq_true h : _ < m)
    · cases h
end Go.Ab

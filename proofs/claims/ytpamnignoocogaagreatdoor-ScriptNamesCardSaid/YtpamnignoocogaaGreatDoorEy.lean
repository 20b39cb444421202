import Derived.Test.YtpamnignoocogaaGreatDoorEx
namespace Go.Ab
def all2 {α : Type} (f : α → α → Bool) : List α → List α → Bool
 | [], [] => true
 | a :: l, b :: m => f a b && all2 f l m
 | _, _ => false
theorem all2_eq {α : Type} {f : α → α → Bool} (hf : ∀ a b, f a b = true → a = b) : ∀ {l m : List α}, all2 f l m = true → l = m
 | [], [], _ => rfl
 | a :: l, b :: m, h => by
   simp only [all2, Bool.and_eq_true] at h;rw [hf a b h.1, all2_eq hf h.2]
 | [], _ :: _, h => by cases h
 | _ :: _, [], h => by cases h
def litE : Value → Value → Bool
 | .bool a, .bool b => a == b
 | .int k n, .int k' m => decide (k = k') && decide (n = m)
 | .string s, .string t => s.data.toList == t.data.toList
 | .pointer none, .pointer none => true
 | .slice none 0 0, .slice none 0 0 => true
 | .map none, .map none => true
 | .nilFunc, .nilFunc => true
 | .nilIface, .nilIface => true
 | _, _ => false
theorem litE_eq {a b : Value} (h : litE a b = true) : a = b := by
 unfold litE at h;split at h
 ·rw [eq_of_beq h]
 ·simp only [Bool.and_eq_true, decide_eq_true_eq] at h; rw [h.1, h.2]
 ·rename_i s t;have e := eq_of_beq h;obtain ⟨s⟩ := s;obtain ⟨t⟩ := t;simp only [Array.toList_inj] at e;rw [e]
 all_goals first | rfl | cases h
def tokE : Tok → Tok → Bool
 | .no, .no => true
 | .nn, .nn => true
 | .full, .full => true
 | .own a b c, .own x y z => a == x && b == y && c == z
 | _, _ => false
theorem tokE_eq {a b : Tok} (h : tokE a b = true) : a = b := by
 unfold tokE at h;split at h
 ·rfl
 ·rfl
 ·rfl
 ·simp only [Bool.and_eq_true, beq_iff_eq] at h; rw [h.1.1, h.1.2, h.2]
 ·cases h
def avE : Nat → AV → AV → Bool
 | 0, _, _ => false
 | n + 1, a, b => match a, b with
   | .lit u, .lit v => litE u v
   | .ptr i o, .ptr j p => i == j && o == p
   | .cptr l, .cptr m => all2 (avE n) l m
   | .sl l t, .sl m u => tokE t u && all2 (all2 (avE n)) l m
   | .agg l, .agg m => all2 (avE n) l m
   | .tup l, .tup m => all2 (avE n) l m
   | .iface t v, .iface u w => t == u && avE n v w
   | .mp i, .mp j => i == j
   | .it i, .it j => i == j
   | .clo f l, .clo g m => f == g && all2 (avE n) l m
   | .slb i x, .slb j y => i == j && decide (x = y)
   | .aptr i x o s, .aptr j y p u => i == j && x == y && o == p && s == u
   | _, _ => false
theorem avE_eq : ∀ {n : Nat} {a b : AV}, avE n a b = true → a = b
 | 0, _, _, h => by cases h
 | n + 1, a, b, h => by
   have ih : ∀ a b, avE n a b = true → a = b := fun a b => avE_eq (n := n);unfold avE at h;split at h
   ·rw [litE_eq h]
   ·simp only [Bool.and_eq_true, beq_iff_eq] at h; rw [h.1, h.2]
   ·rw [all2_eq ih h]
   ·simp only [Bool.and_eq_true] at h; rw [tokE_eq h.1, all2_eq (fun _ _ => all2_eq ih) h.2]
   ·rw [all2_eq ih h]
   ·rw [all2_eq ih h]
   ·simp only [Bool.and_eq_true, beq_iff_eq] at h; rw [h.1, ih _ _ h.2]
   ·rw [eq_of_beq h]
   ·rw [eq_of_beq h]
   ·simp only [Bool.and_eq_true, beq_iff_eq] at h; rw [h.1, all2_eq ih h.2]
   ·simp only [Bool.and_eq_true, beq_iff_eq, decide_eq_true_eq] at h; rw [h.1, h.2]
   ·simp only [Bool.and_eq_true, beq_iff_eq] at h; rw [h.1.1.1, h.1.1.2, h.1.2, h.2]
   ·cases h
section
variable {P : Program} {ty : TyTab} {Γ : Gam}
theorem holdsB_spec {A : Env} {q : Prop} {b : Bool} (hb : b = true → q) : ∀ {vs : List (Nat × Bool)}, holdsB A vs b = true → holds A vs q
 | [], h => hb h
 | (t, c) :: r, h => by
   unfold holdsB at h;unfold holds;split
   ·rename_i tg p he;rw [he] at h;simp only at h;intro hpc;rw [if_pos (by simpa using hpc)] at h;exact holdsB_spec hb h
   ·rename_i hne;split at h
    ·rename_i tg p he; exact absurd he (hne _ _)
    ·exact holdsB_spec hb h
theorem recOf_ev {ops : Array Oper} {A : Env} {M : List AObj} {o : Oper} {c : Rec} (h : recOf ty Γ ops A M o = some c) : evOp ty Γ c.A c.vs c.M o = some c.out := by
 unfold recOf at h;split at h
 ·cases h
 ·split at h
  ·rename_i he; cases h; exact he
  ·cases h
 ·split at h
  ·rename_i he;split at h
   ·cases h; exact he
   ·cases h
  ·cases h
theorem oblB_spec (hf : Free Γ) {ops : Array Oper} : ∀ {l : List Oper} {A A1 : Env} {M M1 : List AObj} {recs : List Rec}, runR ty Γ ops l A M = some (recs, A1, M1) → oblB ty l recs = true → oblsR recs
 | [], A, A1, M, M1, recs, h, _ => by cases h; trivial
 | o :: r, A, A1, M, M1, recs, h, hb => by
   unfold runR at h;split at h
   ·rename_i c hc;split at h
    ·rename_i l' A' M' hr;cases h;unfold oblB at hb;simp only [Bool.and_eq_true] at hb;exact ⟨holdsB_spec (fun q => obB_spec hf (recOf_ev hc) q) hb.1, oblB_spec hf hr hb.2⟩
    ·cases h
   ·cases h
def crossB (ty : TyTab) (Γ : Gam) (ops : List Oper) (recs : List Rec) (M : List AObj) : List (Nat × Nat) → Bool
 | [] => true
 | (k, p) :: r => (match recs[k]?, ops[k]? with
   | some c, some o => match evOp ty Γ c.A c.vs (memAt M recs p) o with
     | some out => avE 12 out.av c.out.av && out.M.isNone && holdsB c.A c.vs (obB ty c.A c.vs (memAt M recs p) o)
     | none => false
   | _, _ => true) && crossB ty Γ ops recs M r
theorem crossB_spec (hf : Free Γ) {ops : List Oper} {recs : List Rec} {M : List AObj} : ∀ {ps : List (Nat × Nat)}, crossB ty Γ ops recs M ps = true → crossAll ty Γ ops recs M ps
 | [], _ => trivial
 | (k, p) :: r, h => by
   unfold crossB at h;simp only [Bool.and_eq_true] at h;refine ⟨?_, crossB_spec hf h.2⟩;have h1 := h.1;split at h1
   ·rename_i c o hc ho;rw [hc, ho];simp only;split at h1
    ·rename_i out he;simp only [Bool.and_eq_true, Option.isNone_iff_eq_none] at h1;rw [he];exact ⟨avE_eq h1.1.1, h1.1.2, holdsB_spec (fun q => obB_spec hf he q) h1.2⟩
    ·cases h1
   ·rename_i hno;split
    ·rename_i c o hc ho; exact absurd ho (hno c o hc)
    ·trivial
end
end Go.Ab

/- Programs that read bytes, numbers of bytes. No condition. -/
import Derived.Test.YtijaigjfacfhnaaDoorNp
namespace Go.Ab

def ofB (l : List UInt8) : ByteArray := ⟨l.toArray⟩
theorem ofB_b (l : List UInt8) : bytesOf (ofB l) = l := lit_b l
theorem ofB_of (s : ByteArray) : ofB (bytesOf s) = s := bytes_ext (ofB_b _)
theorem lenS_of (l : List UInt8) : lenS (ofB l) = (l.length : Int) := by rw [lenS_b, ofB_b]
theorem size_of (l : List UInt8) : (ofB l).size = l.length := by rw [← bytesOf_len, ofB_b]

/-! ### Numbers, the highest byte first -/
def val (l : List UInt8) : Int := l.foldl (fun x b => x * 256 + (b.toNat : Int)) 0
def be : Nat → Int → List UInt8
  | 0, _ => []
  | n + 1, x => be n (x / 256) ++ [(x % 256).toNat.toUInt8]
theorem val_nil : val [] = 0 := rfl
theorem val_snoc (l : List UInt8) (b : UInt8) : val (l ++ [b]) = val l * 256 + (b.toNat : Int) := by simp [val]
theorem be_len : ∀ (n : Nat) (x : Int), (be n x).length = n
  | 0, _ => rfl
  | n + 1, x => by simp [be, be_len n]
theorem byte_of {x : Int} (h0 : 0 ≤ x) (h1 : x < 256) : ((x.toNat.toUInt8).toNat : Int) = x := by
  obtain ⟨n, rfl⟩ : ∃ n : Nat, x = n := ⟨x.toNat, by omega⟩
  simp
  omega
theorem val_be : ∀ (n : Nat) (x : Int), 0 ≤ x → x < 256 ^ n → val (be n x) = x
  | 0, x, h0, h1 => by
    simp at h1
    simp [be, val]
    omega
  | n + 1, x, h0, h1 => by
    rw [be, val_snoc, val_be n (x / 256) (by omega) (by rw [Int.pow_succ] at h1; omega), byte_of (by omega) (by omega)]
    omega
theorem be_val : ∀ (n : Nat) (l : List UInt8), l.length = n → be n (val l) = l
  | 0, l, h => by
    have : l = [] := List.eq_nil_of_length_eq_zero h
    subst this; rfl
  | n + 1, l, h => by
    rcases List.eq_nil_or_concat l with e | ⟨q, b, e⟩
    · subst e; simp at h
    · rw [List.concat_eq_append] at e
      subst e
      have hb := b.toNat_lt
      have hq : q.length = n := by simpa using h
      rw [be, val_snoc]
      have e1 : (val q * 256 + (b.toNat : Int)) / 256 = val q := by omega
      have e2 : (val q * 256 + (b.toNat : Int)) % 256 = b.toNat := by omega
      rw [e1, e2, be_val n q hq]
      simp
theorem val_rng : ∀ (n : Nat) (l : List UInt8), l.length = n → 0 ≤ val l ∧ val l < 256 ^ n
  | 0, l, h => by
    have : l = [] := List.eq_nil_of_length_eq_zero h
    subst this; simp [val]
  | n + 1, l, h => by
    rcases List.eq_nil_or_concat l with e | ⟨q, b, e⟩
    · subst e; simp at h
    · rw [List.concat_eq_append] at e
      subst e
      have hb := b.toNat_lt
      have ih := val_rng n q (by simpa using h)
      rw [val_snoc, Int.pow_succ]
      omega

/-! ### Programs -/
inductive Rd (α : Type) where
  | ret (a : α)
  | rd (n : Nat) (k : List UInt8 → Rd α)
  | bad (e : Int) (k : Rd α)
/-- One reading: what is read, what is left, the error. -/
def stp (n : Nat) (l : List UInt8) (e : Int) : List UInt8 × List UInt8 × Int :=
  if e ≠ 0 then ([], l, e) else if l.length < n then ([], [], 1) else (l.take n, l.drop n, 0)
def flt (x : Int) (l : List UInt8) (e : Int) : List UInt8 × Int := if e = 0 then ([], x) else (l, e)
def Rd.run {α : Type} : Rd α → List UInt8 → Int → α × List UInt8 × Int
  | .ret a, l, e => (a, l, e)
  | .rd n k, l, e => (k (stp n l e).1).run (stp n l e).2.1 (stp n l e).2.2
  | .bad x k, l, e => k.run (flt x l e).1 (flt x l e).2
def Rd.wf {α : Type} : Rd α → Prop
  | .ret _ => True
  | .rd _ k => ∀ b, (k b).wf
  | .bad x k => x ≠ 0 ∧ k.wf

theorem stp_err {n : Nat} {l : List UInt8} {e : Int} (h : e ≠ 0) : stp n l e = ([], l, e) := by unfold stp; rw [if_pos h]
theorem stp_short {n : Nat} {l : List UInt8} (h : l.length < n) : stp n l 0 = ([], [], 1) := by unfold stp; rw [if_neg (by simp), if_pos h]
theorem stp_ok {n : Nat} {l : List UInt8} (h : n ≤ l.length) : stp n l 0 = (l.take n, l.drop n, 0) := by unfold stp; rw [if_neg (by simp), if_neg (by omega)]
theorem run_err {α : Type} : ∀ (m : Rd α) (l : List UInt8) (e : Int), e ≠ 0 → (m.run l e).2 = (l, e)
  | .ret _, _, _, _ => rfl
  | .rd n k, l, e, h => by
    rw [Rd.run, stp_err h]
    exact run_err _ _ _ h
  | .bad x k, l, e, h => by
    rw [Rd.run]
    unfold flt
    rw [if_neg h]
    exact run_err _ _ _ h
theorem run_pre {α : Type} : ∀ (m : Rd α), m.wf → ∀ (s p t : List UInt8) (a : α), m.run s 0 = (a, [], 0) → s = p ++ t → t ≠ [] → (m.run p 0).2 = ([], 1)
  | .ret _, _, s, p, t, a, h, hs, ht => by
    simp only [Rd.run, Prod.mk.injEq] at h
    rw [hs] at h
    have := h.2.1
    simp at this
    exact absurd this.2 ht
  | .rd n k, hw, s, p, t, a, h, hs, ht => by
    rw [Rd.run] at h ⊢
    by_cases h1 : s.length < n
    · rw [stp_short h1] at h
      have := run_err (k []) [] 1 (by omega)
      rw [h] at this
      cases this
    · rw [stp_ok (by omega)] at h
      by_cases h2 : p.length < n
      · rw [stp_short h2]
        exact run_err (k []) [] 1 (by omega)
      · rw [stp_ok (by omega)]
        have e1 : s.take n = p.take n := by rw [hs, List.take_append_of_le_length (by omega)]
        have e2 : s.drop n = p.drop n ++ t := by rw [hs, List.drop_append_of_le_length (by omega)]
        rw [e1] at h
        exact run_pre (k _) (hw _) _ _ t a h e2 ht
  | .bad x k, hw, s, p, t, a, h, _, _ => by
    rw [Rd.run] at h
    have := run_err k (flt x s 0).1 (flt x s 0).2 (by unfold flt; simp; exact hw.1)
    rw [h] at this
    unfold flt at this
    simp only [if_true, Prod.mk.injEq] at this
    exact absurd this.2.symm hw.1
theorem run_app {α : Type} : ∀ (m : Rd α), m.wf → ∀ (s t : List UInt8) (a : α), m.run s 0 = (a, [], 0) → m.run (s ++ t) 0 = (a, t, 0)
  | .ret _, _, s, t, a, h => by
    simp only [Rd.run, Prod.mk.injEq] at h ⊢
    exact ⟨h.1, by rw [h.2.1]; rfl, trivial⟩
  | .rd n k, hw, s, t, a, h => by
    rw [Rd.run] at h ⊢
    by_cases h1 : s.length < n
    · rw [stp_short h1] at h
      have := run_err (k []) [] 1 (by omega)
      rw [h] at this
      cases this
    · rw [stp_ok (by omega)] at h
      rw [stp_ok (by simp; omega), List.take_append_of_le_length (by omega), List.drop_append_of_le_length (by omega)]
      exact run_app (k _) (hw _) _ t a h
  | .bad x k, hw, s, t, a, h => by
    rw [Rd.run] at h
    have := run_err k (flt x s 0).1 (flt x s 0).2 (by unfold flt; simp; exact hw.1)
    rw [h] at this
    unfold flt at this
    simp only [if_true, Prod.mk.injEq] at this
    exact absurd this.2.symm hw.1

/-! ### What they are made of -/
section
variable {α : Type}
def num (n : Nat) (k : Int → Rd α) : Rd α := .rd n fun b => k (val b)
def tru (k : Bool → Rd α) : Rd α := .rd 1 fun b => if 1 < val b then .bad 2 (k false) else k (decide (val b = 1))
def many : Nat → List Int → (List Int → Rd α) → Rd α
  | 0, acc, k => k acc
  | m + 1, acc, k => num 4 fun x => many m (acc ++ [x]) k
def bitB (b : Bool) : UInt8 := if b then 1 else 0

theorem num_wf {n : Nat} {k : Int → Rd α} (h : ∀ x, (k x).wf) : (num n k).wf := fun _ => h _
theorem tru_wf {k : Bool → Rd α} (h : ∀ x, (k x).wf) : (tru k).wf := fun b => by
  show Rd.wf (if _ then _ else _)
  split
  · exact ⟨by omega, h _⟩
  · exact h _
theorem many_wf : ∀ {m : Nat} {acc : List Int} {k : List Int → Rd α}, (∀ x, (k x).wf) → (many m acc k).wf
  | 0, _, _, h => h _
  | _ + 1, _, _, h => num_wf fun _ => many_wf h

/-- From the run to the bytes. -/
theorem run_rd_inv {n : Nat} {k : List UInt8 → Rd α} {s r : List UInt8} {a : α} (h : (Rd.rd n k).run s 0 = (a, r, 0)) : ∃ b s', s = b ++ s' ∧ b.length = n ∧ (k b).run s' 0 = (a, r, 0) := by
  rw [Rd.run] at h
  by_cases h1 : s.length < n
  · rw [stp_short h1] at h
    have := run_err (k []) [] 1 (by omega)
    rw [h] at this
    cases this
  · rw [stp_ok (by omega)] at h
    exact ⟨s.take n, s.drop n, (List.take_append_drop n s).symm, by rw [List.length_take]; omega, h⟩
theorem run_num_inv {n : Nat} {k : Int → Rd α} {s r : List UInt8} {a : α} (h : (num n k).run s 0 = (a, r, 0)) : ∃ x s', s = be n x ++ s' ∧ 0 ≤ x ∧ x < 256 ^ n ∧ (k x).run s' 0 = (a, r, 0) := by
  obtain ⟨b, s', h1, h2, h3⟩ := run_rd_inv h
  have hr := val_rng n b h2
  exact ⟨val b, s', by rw [be_val n b h2]; exact h1, hr.1, hr.2, h3⟩
theorem run_tru_inv {k : Bool → Rd α} {s r : List UInt8} {a : α} (h : (tru k).run s 0 = (a, r, 0)) : ∃ v s', s = bitB v :: s' ∧ (k v).run s' 0 = (a, r, 0) := by
  obtain ⟨b, s', h1, h2, h3⟩ := run_rd_inv h
  try dsimp only at h3
  split at h3
  · exfalso
    rw [Rd.run] at h3
    have := run_err (k false) (flt 2 s' 0).1 (flt 2 s' 0).2 (by unfold flt; simp)
    rw [h3] at this
    unfold flt at this
    simp at this
  · rename_i hb
    have hr := val_rng 1 b h2
    refine ⟨decide (val b = 1), s', ?_, h3⟩
    rw [h1, ← be_val 1 b h2]
    by_cases h0 : val b = 1
    · rw [h0]; rfl
    · have : val b = 0 := by omega
      rw [this]; rfl
theorem run_many_inv : ∀ {m : Nat} {acc : List Int} {k : List Int → Rd α} {s r : List UInt8} {a : α}, (many m acc k).run s 0 = (a, r, 0) →
    ∃ l s', s = l.flatMap (be 4) ++ s' ∧ l.length = m ∧ (∀ x ∈ l, 0 ≤ x ∧ x < 4294967296) ∧ (k (acc ++ l)).run s' 0 = (a, r, 0)
  | 0, acc, k, s, r, a, h => ⟨[], s, rfl, rfl, (fun _ h => by cases h), (by rw [List.append_nil]; exact h)⟩
  | m + 1, acc, k, s, r, a, h => by
    obtain ⟨x, s', h1, h2, h3, h4⟩ := run_num_inv h
    obtain ⟨l, s2, k1, k2, k3, k4⟩ := run_many_inv h4
    refine ⟨x :: l, s2, by rw [h1, k1]; simp, by simp [k2], fun y hy => ?_, by rw [List.append_assoc] at k4; exact k4⟩
    rcases List.mem_cons.1 hy with rfl | hy
    · exact ⟨h2, h3⟩
    · exact k3 y hy

/-- From the bytes to the run. -/
theorem run_rd_fwd {n : Nat} {k : List UInt8 → Rd α} {b s : List UInt8} (h : b.length = n) : (Rd.rd n k).run (b ++ s) 0 = (k b).run s 0 := by
  rw [Rd.run, stp_ok (by simp; omega), ← h, List.take_left, List.drop_left]
theorem run_num_fwd {n : Nat} {k : Int → Rd α} {x : Int} {s : List UInt8} (h0 : 0 ≤ x) (h1 : x < 256 ^ n) : (num n k).run (be n x ++ s) 0 = (k x).run s 0 := by
  unfold num
  rw [run_rd_fwd (be_len n x), val_be n x h0 h1]
theorem run_tru_fwd {k : Bool → Rd α} {v : Bool} {s : List UInt8} : (tru k).run (bitB v :: s) 0 = (k v).run s 0 := by
  have : bitB v :: s = [bitB v] ++ s := rfl
  unfold tru
  rw [this, run_rd_fwd (b := [bitB v]) (n := 1) rfl]
  cases v
  · rfl
  · rfl
theorem run_many_fwd : ∀ {l : List Int} {acc : List Int} {k : List Int → Rd α} {s : List UInt8}, (∀ x ∈ l, 0 ≤ x ∧ x < 4294967296) → (many l.length acc k).run (l.flatMap (be 4) ++ s) 0 = (k (acc ++ l)).run s 0
  | [], acc, k, s, _ => by rw [List.append_nil]; rfl
  | x :: l, acc, k, s, h => by
    have hx := h x (by simp)
    rw [List.length_cons, many, List.flatMap_cons, List.append_assoc, run_num_fwd hx.1 hx.2, run_many_fwd fun y hy => h y (by simp [hy])]
    simp
end
end Go.Ab

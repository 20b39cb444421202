/- Runs on fixed data, reckoned: what is drawn; the whole. No condition: over any program. -/
import Derived.Test.YtjjjeolcapebbaaGreatDoorEx
namespace Go.Ab

section
variable {P : Program} {ty : TyTab} {Γ : Gam}
theorem holdsB_spec {A : Env} {q : Prop} {b : Bool} (hb : b = true → q) : ∀ {vs : List (Nat × Bool)}, holdsB A vs b = true → holds A vs q
  | [], h => hb h
  | (t, c) :: r, h => by
    unfold holdsB at h
    unfold holds
    split
    · rename_i tg p he
      rw [he] at h
      simp only at h
      intro hpc
      rw [if_pos (by simpa using hpc)] at h
      exact holdsB_spec hb h
    · rename_i hne
      split at h
      · rename_i tg p he; exact absurd he (hne _ _)
      · exact holdsB_spec hb h
theorem recOf_ev {ops : Array Oper} {A : Env} {M : List AObj} {o : Oper} {c : Rec} (h : recOf ty Γ ops A M o = some c) : evOp ty Γ c.A c.vs c.M o = some c.out := by
  unfold recOf at h
  split at h
  · cases h
  · split at h
    · rename_i he; cases h; exact he
    · cases h
  · split at h
    · rename_i he
      split at h
      · cases h; exact he
      · split at h
        · cases h; exact he
        · cases h
    · cases h
theorem oblB_spec (hf : Free Γ) {ops : Array Oper} : ∀ {l : List Oper} {A A1 : Env} {M M1 : List AObj} {recs : List Rec}, runR ty Γ ops l A M = some (recs, A1, M1) → oblB ty l recs = true → oblsR recs
  | [], A, A1, M, M1, recs, h, _ => by cases h; trivial
  | o :: r, A, A1, M, M1, recs, h, hb => by
    unfold runR at h
    split at h
    · rename_i c hc
      split at h
      · rename_i l' A' M' hr
        cases h
        unfold oblB at hb
        simp only [Bool.and_eq_true] at hb
        exact ⟨holdsB_spec (fun q => obB_spec hf (recOf_ev hc) q) hb.1, oblB_spec hf hr hb.2⟩
      · cases h
    · cases h
def crossB (ty : TyTab) (Γ : Gam) (ops : List Oper) (recs : List Rec) (M : List AObj) : List (Nat × Nat) → Bool
  | [] => true
  | (k, p) :: r => (match recs[k]?, ops[k]? with
      | some c, some o => match evOp ty Γ c.A c.vs (memAt M recs p) o with
        | some out => avE 12 out.av c.out.av && out.M.isNone && holdsB c.A c.vs (obB ty c.A c.vs (memAt M recs p) o)
        | none => false
      | _, _ => true) && crossB ty Γ ops recs M r
theorem crossB_spec (hf : Free Γ) {ops : List Oper} {recs : List Rec} {M : List AObj} : ∀ {ps : List (Nat × Nat)}, crossB ty Γ ops recs M ps = true → crossAll ty Γ ops recs M ps
  | [], _ => trivial
  | (k, p) :: r, h => by
    unfold crossB at h
    simp only [Bool.and_eq_true] at h
    refine ⟨?_, crossB_spec hf h.2⟩
    have h1 := h.1
    split at h1
    · rename_i c o hc ho
      rw [hc, ho]
      simp only
      split at h1
      · rename_i out he
        simp only [Bool.and_eq_true, Option.isNone_iff_eq_none] at h1
        rw [he]
        exact ⟨avE_eq h1.1.1, h1.1.2, holdsB_spec (fun q => obB_spec hf he q) h1.2⟩
      · cases h1
    · rename_i hno
      split
      · rename_i c o hc ho; exact absurd ho (hno c o hc)
      · trivial
end
end Go.Ab

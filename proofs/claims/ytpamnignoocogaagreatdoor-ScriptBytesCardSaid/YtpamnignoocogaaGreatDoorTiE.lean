/- The tie of what the rows lay, in parts: part TiE. No condition. -/
import Derived.Test.YtpamnignoocogaaGreatDoorTiA
import Derived.LaidByTextLater
import Derived.SevenTiedAt
namespace Go.Proofs.YtpamnignoocogaaGreatDoor
open Go
/-- The number of a place. -/
def codeP : MemPlace → Option Nat
  | .cell b off => if off < 2048 then some (b * 2048 + off) else none
  | .map _ => none
/-- No place twice, by their numbers. -/
def nodB : List MemPlace → Nat → Bool
  | [], _ => true
  | p :: r, acc => match codeP p with
    | some c => !acc.testBit c && nodB r (acc ||| (1 <<< c))
    | none => false
theorem codeP_inj {p q : MemPlace} {c : Nat} (hp : codeP p = some c) (hq : codeP q = some c) : p = q := by
  cases p with
  | map _ => cases hp
  | cell b off => cases q with
    | map _ => cases hq
    | cell b' off' =>
      simp only [codeP] at hp hq
      by_cases h1 : off < 2048
      · by_cases h2 : off' < 2048
        · rw [if_pos h1] at hp
          rw [if_pos h2] at hq
          have e1 := Option.some.inj hp
          have e2 := Option.some.inj hq
          have e3 : b = b' := by omega
          have e4 : off = off' := by omega
          rw [e3, e4]
        · rw [if_neg h2] at hq; cases hq
      · rw [if_neg h1] at hp; cases hp
theorem nodB_spec : ∀ {l : List MemPlace} {acc : Nat}, nodB l acc = true → l.Nodup ∧ ∀ p ∈ l, ∀ c, codeP p = some c → acc.testBit c = false
  | [], _, _ => ⟨.nil, fun _ h => by cases h⟩
  | p :: r, acc, h => by
    unfold nodB at h
    split at h
    · rename_i c hc
      simp only [Bool.and_eq_true, Bool.not_eq_true'] at h
      obtain ⟨h1, h2⟩ := h
      obtain ⟨i1, i2⟩ := nodB_spec h2
      have hb : ∀ q ∈ r, ∀ d, codeP q = some d → acc.testBit d = false ∧ c ≠ d := fun q hq d hd => by
        have := i2 q hq d hd
        simp only [Nat.testBit_or, Bool.or_eq_false_iff, Nat.one_shiftLeft, Nat.testBit_two_pow] at this
        exact ⟨this.1, by simpa using this.2⟩
      refine ⟨List.nodup_cons.2 ⟨fun hp => (hb p hp c hc).2 rfl, i1⟩, fun q hq d hd => ?_⟩
      rcases List.mem_cons.1 hq with rfl | hq
      · rw [hc] at hd; cases hd; exact h1
      · exact (hb q hq d hd).1
    · cases h
theorem tie_h2a : ∀ os tape, (DataW.laidRun Tryz.prog (varsWorld Tryz.prog 400 (varsId Tryz.prog) os tape).memory 8 (tieL.map (·.1))).map (fun x => nodB x.2 0) = some true := fun _ _ => by kernel_rfl
end Go.Proofs.YtpamnignoocogaaGreatDoor

import Derived.Test.YtpamnignoocogaaGreatDoorTiA
import Derived.LaidByTextLater
import Derived.SevenTiedAt
namespace Go.Proofs.YtpamnignoocogaaGreatDoor
open Go
def codeP : MemPlace → Option Nat
 | .cell b off => if off < 2048 then some (b * 2048 + off) else none
 | .map _ => none
def nodB : List MemPlace → Nat → Bool
 | [], _ => true
 | p :: r, acc => match codeP p with
   | some c => !acc.testBit c && nodB r (acc ||| (1 <<< c))
   | none => false
theorem nodB_spec : ∀ {l : List MemPlace} {acc : Nat}, nodB l acc = true → l.Nodup ∧ ∀ p ∈ l, ∀ c, codeP p = some c → acc.testBit c = false
 | [], _, _ => ⟨.nil, fun _ h => by cases h⟩
 | p :: r, acc, h => by
   unfold nodB at h;split at h
   ·rename_i c hc;simp only [Bool.and_eq_true, Bool.not_eq_true'] at h;obtain ⟨h1, h2⟩ := h;obtain ⟨i1, i2⟩ := nodB_spec h2
    have hb : ∀ q ∈ r, ∀ d, codeP q = some d → acc.testBit d = false ∧ c ≠ d := fun q hq d hd => by
     have := i2 q hq d hd;simp only [Nat.testBit_or, Bool.or_eq_false_iff, Nat.one_shiftLeft, Nat.testBit_two_pow] at this;exact ⟨this.1, by simpa using this.2⟩
    refine ⟨List.nodup_cons.2 ⟨fun hp => (hb p hp c hc).2 rfl, i1⟩, fun q hq d hd => ?_⟩;rcases List.mem_cons.1 hq with rfl | hq
    ·rw [hc] at hd; cases hd; exact h1
    ·exact (hb q hq d hd).1
   ·cases h
theorem tie_h2a : ∀ os tape, (DataW.laidRun Tryz.prog (varsWorld Tryz.prog 400 (varsId Tryz.prog) os tape).memory 8 (tieL.map (·.1))).map (fun x => nodB x.2 0) = some true := fun _ _ => by kernel_rfl
end Go.Proofs.YtpamnignoocogaaGreatDoor

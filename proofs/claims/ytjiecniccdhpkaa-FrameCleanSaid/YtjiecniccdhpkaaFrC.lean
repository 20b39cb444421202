/- Contracts of package antiphonlaw10: awake; and FrameMay's walk. -/
import Derived.Test.YtjiecniccdhpkaaFrB
import Derived.Test.YtjiecniccdhpkaaGl
namespace Go.Proofs
open Go.Ab

def awakeS : Sp
  | [], _ => some { av := .lit (.bool true) }
  | _, _ => none

theorem pf1 : putF ⟨true, 100, 5, 9, [], 0, 0⟩ ⟨5, 0, false, true, true, ⟨#[120]⟩, 0⟩ = (⟨true, 100, 5, 9, [⟨5, 0, false, true, true, ⟨#[120]⟩, 0⟩], 0, 0⟩, [], false) := by kernel_rfl
theorem pf2 : putF ⟨true, 100, 5, 9, [⟨5, 0, false, true, true, ⟨#[120]⟩, 0⟩], 0, 0⟩ ⟨6, 0, true, false, false, ⟨#[121]⟩, 0⟩ = (⟨true, 100, 5, 9, [], 1, 0⟩, [⟨5, 0, false, true, true, ⟨#[120]⟩, 0⟩, ⟨6, 0, true, false, false, ⟨#[121]⟩, 0⟩], true) := by kernel_rfl
theorem pf3 : keyF [⟨5, 0, false, true, true, ⟨#[120]⟩, 0⟩, ⟨6, 0, true, false, false, ⟨#[121]⟩, 0⟩] = true := by kernel_rfl
theorem pf4 : sizeF [⟨5, 0, false, true, true, ⟨#[120]⟩, 0⟩, ⟨6, 0, true, false, false, ⟨#[121]⟩, 0⟩] = 2 := by kernel_rfl

theorem awake_ok : SpecOk Try.prog 12 awakeS := by
  intro l M out h
  unfold awakeS at h
  split at h
  · cases h
    refine call_of_vc Try.mixed Try.tyOk (gamL_cons new_ok (gamL_cons put_ok (gamL_cons key_ok (gamL_cons size_ok (gamL_cons open_ok gamL_nil))))) (fun | 0 => [0] | 1 => [1, 2] | 2 => [17] | 3 => [0] | 4 => [4] | 5 => [5, 6] | 6 => [0] | _ => []) (fun _ => []) Try.func12 rfl (by kernel_rfl) rfl rfl (by simp) ?_
    intro _ hbM hbA
    have h0 : checkF 100 5 9 = 0 := by kernel_rfl
    simp [newS, h0, putS, FM.enc, pf1, pf2, keyS, sizeS, openS, hbM, pf3, pf4]
  · cases h

def mayS : Sp
  | [.lit (.bool _), .lit (.int .i64 _), .lit (.int .i64 _), .lit (.int .i64 _)], _ => some { av := .lit (.bool true) }
  | _, _ => none

theorem may_ok : SpecOk Try.prog 4 mayS := by
  intro l M out h
  unfold mayS at h
  split at h
  · rename_i v b u w
    cases h
    refine call_of_vc Try.mixed Try.tyOk (gamL_cons awake_ok (gamL_cons new_ok (gamL_cons check_ok (gamL_cons time_ok (gamL_cons key_ok gamL_nil))))) (fun | 0 => [8] | 1 => [9] | 2 => [10, 11] | 3 => [12] | 4 => [8] | _ => []) (fun _ => []) Try.func4 rfl (by kernel_rfl) rfl rfl (by simp) ?_
    intro _ hbM hbA
    by_cases hc : checkF b u w = 0
    · have hc' : 1 ≤ b ∧ b ≤ 1048576 ∧ 1 ≤ u ∧ u ≤ 1024 ∧ 0 ≤ w ∧ w ≤ 1099511627776 := by
        revert hc; unfold checkF; split <;> omega
      simp [newS, hc, awakeS, checkS, timeS, keyS, hbM, timeF, keyF, hc']
    · have h5 : checkF b u w = 5 := by
        revert hc; unfold checkF; split <;> simp
      have hc' : ¬ (1 ≤ b ∧ b ≤ 1048576 ∧ 1 ≤ u ∧ u ≤ 1024 ∧ 0 ≤ w ∧ w ≤ 1099511627776) := by
        revert hc; unfold checkF; split <;> omega
      simp [newS, h5, awakeS, checkS, timeS, keyS, hbM, timeF, keyF, hc']
      omega
  · cases h
theorem may_call : ∀ xs, ShAll Try.prog Try.f4.params.toList xs → ∃ o : Prop, o ∧ CallOk Try.prog 4 xs [] { av := .lit (.bool true), obl := o } := by
  intro xs h
  rw [Try.params4] at h
  obtain ⟨a0, xs, rfl, h0, h⟩ := shAll_cons h
  obtain ⟨a1, xs, rfl, h1, h⟩ := shAll_cons h
  obtain ⟨a2, xs, rfl, h2, h⟩ := shAll_cons h
  obtain ⟨a3, xs, rfl, h3, h⟩ := shAll_cons h
  obtain rfl := shAll_nil h
  obtain ⟨v, rfl⟩ := shV_bool (by kernel_rfl) h0
  obtain ⟨b, rfl, _⟩ := shV_int (k := .i64) (by kernel_rfl) h1
  obtain ⟨u, rfl, _⟩ := shV_int (k := .i64) (by kernel_rfl) h2
  obtain ⟨w, rfl, _⟩ := shV_int (k := .i64) (by kernel_rfl) h3
  exact ⟨True, trivial, may_ok _ _ _ rfl⟩
end Go.Proofs

/- EgressMay: which configurations may be, in plain words. No condition but that the number is a number of the language. -/
import Derived.Test.YtnoeflijefijcaaYi
import Derived.Test.YtnoeflijefijcaaM02
import Derived.Test.YtnoeflijefijcaaGy
import Derived.Test.YtnoeflijefijcaaM03
import Derived.Test.YtnoeflijefijcaaTy
section
namespace Go.Proofs
open Go.Ab

def mayB (x0 : EgressConfig) : Bool := (pickB (pickB (pickB (pickB (pickB (pickB (pickB (pickB (pickB (leqI 1 x0.fFrames) (leqI x0.fFrames 1024) false) (leqI 1 x0.fBytes) false) (leqI x0.fBytes 16777216) false) (leqI 1 x0.fAge) false) (leqI x0.fAge 1099511627776) false) (leqI 1 x0.fMost) false) (leqI x0.fMost 16777216) false) (leqI 1 x0.fGuard) false) (leqI x0.fGuard 1024) false)
theorem mayB_t {c : EgressConfig} (h : CfgOk c) : mayB c = true := by
  obtain ⟨⟨a1, a2⟩, ⟨b1, b2⟩, ⟨c1, c2⟩, ⟨d1, d2⟩, e1, e2⟩ := h
  unfold mayB
  rw [leI_t a1, leI_t a2, leI_t b1, leI_t b2, leI_t c1, leI_t c2, leI_t d1, leI_t d2, leI_t e1, leI_t e2]
  rfl
theorem mayB_f {c : EgressConfig} (h : ¬ CfgOk c) : mayB c = false := by
  cases hm : mayB c with
  | false => rfl
  | true =>
    exfalso
    unfold mayB at hm
    simp only [pickB_and, leI_d, Bool.and_eq_true, decide_eq_true_eq] at hm
    obtain ⟨⟨⟨⟨⟨⟨⟨⟨⟨a1, a2⟩, b1⟩, b2⟩, c1⟩, c2⟩, d1⟩, d2⟩, e1⟩, e2⟩ := hm
    exact h ⟨⟨a1, a2⟩, ⟨b1, b2⟩, ⟨c1, c2⟩, ⟨d1, d2⟩, e1, e2⟩
theorem check_bad {c : EgressConfig} (h : ¬ CfgOk c) : gEgressConfigCheck c = some 5 := by
  unfold gEgressConfigCheck
  simp only [pickB_or, ltI_d]
  cases hA : (decide (c.fFrames < 1) || decide (1024 < c.fFrames) || decide (c.fBytes < 1) || decide (16777216 < c.fBytes) || decide (c.fAge < 1) || decide (1099511627776 < c.fAge)) with
  | true => rfl
  | false =>
    cases hB : (decide (c.fMost < 1) || decide (16777216 < c.fMost) || decide (c.fGuard < 1) || decide (1024 < c.fGuard)) with
    | true => rfl
    | false =>
      exfalso
      simp only [Bool.or_eq_false_iff, decide_eq_false_iff_not] at hA hB
      exact h ⟨by omega, by omega, by omega, by omega, by omega⟩

theorem some_u'' {α : Type} (x : α) : (some x).isSome = true := rfl
set_option maxRecDepth 100000 in
theorem egressMay_plain (c : EgressConfig) (id share : Int) (w : (Lit.int .i64 id).wf = true) : gLaw20EgressMay c id share = some true := by
  have hid : -9223372036854775808 ≤ id ∧ id ≤ 9223372036854775807 := by
    simp only [Lit.wf, Bool.and_eq_true, decide_eq_true_eq] at w
    exact w
  by_cases hok : CfgOk c
  · obtain ⟨hc, P, e, r⟩ := new20_ok hok
    have hm := mayB_t hok
    unfold mayB at hm
    obtain ⟨P1, X1, w1, e1, _, r1, c1, _, _, z1, z2, z3, d1⟩ := add_both r (by decide) hid true share
    obtain ⟨P2, X2, w2, e2, _, r2, c2, _, _, y1, y2, _, d2⟩ := add_both r1 (by decide) hid false share
    have hno : id ∉ (x0F c).fL.map (·.fId) := by simp [x0F]
    unfold gLaw20EgressMay
    rw [e]
    simp only [bind_so, optC_some]
    rw [awake_ok]
    simp only [bind_so]
    rw [hc, hm]
    simp only [getD_so]
    rw [eqI_t rfl, neI_f rfl, show pickB (pickB (pickB (notB true) true (neB true true)) true (neB true true)) true false = false from by decide, cond_false, need_t (some_u' _), show notB true = false from rfl, cond_false, e1]
    simp only [bind_so]
    rw [e2]
    simp only [bind_so]
    by_cases hs : share < c.fMost ∨ 16777216 < share
    · have h5 : w1 = 5 := z3 hno rfl hs
      have hX1 : X1 = x0F c := by
        rcases d1 with ⟨q, _⟩ | ⟨_, q⟩
        · exact q
        · rw [h5] at q; cases q
      have h0 : w2 = 0 := y1 (by rw [hX1]; exact hno) (.inl rfl)
      have hb : pickB (ltI share c.fMost) true (ltI 16777216 share) = true := by
        rw [pickB_or]
        rcases hs with q | q
        · rw [ltI_t q]; rfl
        · rw [ltI_t q]; simp
      rw [hb, cond_true, h5, h0]
      rfl
    · have h0 : w1 = 0 := z1 hno (.inr (show c.fMost ≤ share ∧ share ≤ 16777216 by omega))
      have hX1 : X1.fL = [⟨id, true, ⟨c.fFrames, c.fBytes, [], true⟩⟩] := by
        rcases d1 with ⟨_, q⟩ | ⟨q, _⟩
        · exact absurd h0 q
        · exact q
      have h10 : w2 = 10 := y2 (by rw [hX1]; simp)
      have hX2 : X2 = X1 := by
        rcases d2 with ⟨q, _⟩ | ⟨_, q⟩
        · exact q
        · rw [h10] at q; cases q
      have hbr : gEgressOutBroken P2 id = some true := by
        have hmem : (⟨id, true, ⟨c.fFrames, c.fBytes, [], true⟩⟩ : Fw) ∈ X2.fL := by rw [hX2, hX1]; exact .head _
        have := r2.flows.find hmem
        unfold gEgressOutBroken
        rw [show findM eqI id P2.fFlows = _ from this, optC_some]
        simp only [broken_ok]
        rw [need_t (some_u'' _)]
        rfl
      rw [ltI_f (a := share) (by omega), ltI_f (by omega), show pickB false true false = false from rfl, cond_false, h0, h10, hbr, need_t (some_u' _)]
      rfl
  · have hm := mayB_f hok
    unfold mayB at hm
    have hc := check_bad hok
    have e : gEgressNew c = some (none, 5) := by
      unfold gEgressNew
      rw [hc]
      rfl
    unfold gLaw20EgressMay
    rw [e]
    simp only [bind_so, optC_none]
    rw [awake_ok]
    simp only [bind_so]
    rw [hc, hm, need_t (some_u' _)]
    rfl
end Go.Proofs
end
section
namespace Go.Proofs
open Go.Ab

theorem EgressConfig.sh {q : List AV} (h : ShE Try.prog 23 q) : ∃ x : EgressConfig, q = x.enc := by
  have k := sh_fields Try.ty23 h
  clear h
  obtain ⟨_, _, rfl, h0, k⟩ := k
  obtain ⟨x0, rfl, _⟩ := sh_int (k := .i64) (by kernel_rfl) h0
  obtain ⟨_, _, rfl, h1, k⟩ := k
  obtain ⟨x1, rfl, _⟩ := sh_int (k := .i64) (by kernel_rfl) h1
  obtain ⟨_, _, rfl, h2, k⟩ := k
  obtain ⟨x2, rfl, _⟩ := sh_int (k := .i64) (by kernel_rfl) h2
  obtain ⟨_, _, rfl, h3, k⟩ := k
  obtain ⟨x3, rfl, _⟩ := sh_int (k := .i64) (by kernel_rfl) h3
  obtain ⟨_, _, rfl, h4, k⟩ := k
  obtain ⟨x4, rfl, _⟩ := sh_int (k := .i64) (by kernel_rfl) h4
  obtain rfl := k
  exact ⟨EgressConfig.mk x0 x1 x2 x3 x4, by simp⟩

set_option maxRecDepth 100000 in
theorem gLaw20EgressMay_call : ∀ xs, ShAll Try.prog Try.f3.params.toList xs → ∃ o : Prop, o ∧ CallOk Try.prog 3 xs [] { av := .lit (.bool true), obl := o } := by
  intro xs h
  rw [show Try.f3.params.toList = [23, 3, 3] by kernel_rfl] at h
  obtain ⟨_, _, rfl, h0, h⟩ := shAll_cons h
  obtain ⟨_, _, rfl, h1, h⟩ := shAll_cons h
  obtain ⟨_, _, rfl, h2, h⟩ := shAll_cons h
  obtain rfl := shAll_nil h
  obtain ⟨_, rfl, k0⟩ := shV_agg Try.ty23 h0
  obtain ⟨x0, rfl⟩ := EgressConfig.sh k0
  obtain ⟨x1, rfl, w1⟩ := shV_int (k := .i64) (by kernel_rfl) h1
  obtain ⟨x2, rfl, w2⟩ := shV_int (k := .i64) (by kernel_rfl) h2
  exact ⟨True, trivial, gLaw20EgressMay.can x0 x1 x2 true (egressMay_plain x0 x1 x2 w1)⟩
end Go.Proofs
end

/- That these functions compute what their plain functions do. No condition. -/
import Derived.Test.YtpamnignoocogaaGreatDoorM11
import Derived.Test.YtpamnignoocogaaGreatDoorTy
import Derived.Test.YtpamnignoocogaaGreatDoorM01
import Derived.Test.YtpamnignoocogaaGreatDoorM10
import Derived.Shelf.SlSortCmp.NoneTotal
import Derived.WalkKit
import Derived.Test.YtpamnignoocogaaGreatDoorProg
import Derived.Test.YtpamnignoocogaaGreatDoorAb5
import Derived.Test.YtpamnignoocogaaGreatDoorAb8
section
namespace Go.Proofs
open Go.Ab
@[simp] def gLaw01Cut.out (_x0 : ByteArray) (_x1 : Int) (r : ByteArray) : Out := { av := .lit (.string r), M := none }
def gLaw01Cut.fin (x0 : ByteArray) (x1 : Int) (r : ByteArray) (σ : St) : Prop := finK (gLaw01Cut.out x0 x1 r) [] σ.M (resA Tryz.ty σ.A σ.M Tryz.f6.results.toList)
set_option maxHeartbeats 4000000 in
set_option maxRecDepth 100000 in
theorem gLaw01Cut.can (x0 : ByteArray) (x1 : Int) (r : ByteArray) (hr : gLaw01Cut x0 x1 = some r) : CallOk Tryz.prog 6 [.lit (.string x0), .lit (.int .i64 x1)] [] (gLaw01Cut.out x0 x1 r) := by
  unfold gLaw01Cut at hr
  have hΓ := gamL_nil (P := Tryz.prog)
  refine cw Tryz.func6 rfl (by kernel_rfl) rfl rfl (by simp) fun _ _ _ => ?_
  refine tq hΓ [] [] ?_
  refine AWp.seq ?_
  refine tq hΓ [8] [] ?_
  refine AWp.cnd hr (by simp) (fun h3 hr => ?_) (fun h3 hr => ?_)
  · obtain ⟨h4, hr⟩ := need_some hr
    refine tq hΓ [4] [8, 0, 1] ?_ (by simp [h3, h4]; exact rr)
    obtain rfl := some_inj hr
    exact AWp.ret (fin_ret (by simp))
  · refine AWp.skip ?_
    refine tq hΓ [4] [8, 0, 1] ?_ (by simp [h3]; exact rr)
    obtain rfl := some_inj hr
    exact AWp.ret (fin_ret (by simp))

@[simp] noncomputable def gLaw01Cut.S : Sp
  | [.lit (.string x0), .lit (.int .i64 x1)], _ => some { av := .lit (.string ((gLaw01Cut x0 x1).getD dflt)), M := none, obl := (gLaw01Cut x0 x1).isSome = true }
  | _, _ => none

set_option maxHeartbeats 1000000 in
theorem gLaw01Cut.ok : SpecOk Tryz.prog 6 gLaw01Cut.S := by
  intro l M out h
  unfold gLaw01Cut.S at h
  split at h
  · rename_i x0 x1
    cases h
    refine callOk_of fun ho => ?_
    have hs := ho
    obtain ⟨r, hr⟩ := so1 hs
    simp only [hr, gd1]
    have q := call_frame (M := M) [] (gLaw01Cut.can x0 x1 r hr) (by simp) rfl ixn
    exact callOk_conv q trivial (by simp) (by simp [frameOut]) (by simp [frameOut])
  · cases h
end Go.Proofs
end
section
namespace Go.Ab
section
variable {P : Program}
theorem LibOk.free {f : FuncId} {S : Sp} (h : SpecOk P f S) (hob : ∀ l M o, S l M = some o → o.obl) : LibOk P f S := fun l M o q => ⟨fun g vs hM sm hr _ => h l M o q g vs hM sm hr (hob l M o q), hob l M o q⟩
theorem keysS_free {k : Nat} (l : List AV) (M : List AObj) (o : Out) (h : keysS k l M = some o) : o.obl := by
  unfold keysS at h
  split at h
  · split at h <;> first | (cases h; trivial) | cases h
  · cases h
instance (l : List Int) : Decidable (KeysB l) := inferInstanceAs (Decidable ((∀ x ∈ l, (Lit.int .i64 x).wf = true) ∧ l.length * 8 ≤ 140737488355328))
instance (l : List ByteArray) : Decidable (KeysBS l) := inferInstanceAs (Decidable ((∀ x ∈ l, x.size ≤ maxLen) ∧ l.length * 16 ≤ 140737488355328))
def isI64 : AV → Bool
  | .lit (.int .i64 _) => true
  | _ => false
theorem isI64_spec {a : AV} (h : isI64 a = true) : a = kI .i64 (dkI a) := by
  unfold isI64 at h
  split at h
  · rfl
  · cases h
def isStr : AV → Bool
  | .lit (.string _) => true
  | _ => false
theorem isStr_spec {a : AV} (h : isStr a = true) : a = kS (dkS a) := by
  unfold isStr at h
  split at h
  · rfl
  · cases h
def sortedOb (l : List AV) (M : List AObj) : Bool := match l with
  | [.fn _ [.mp i]] => match M[i]? with
    | some (.mapo es) => (es.all fun e => isI64 e.1) && decide (KeysB (keysV es))
    | _ => false
  | _ => false
theorem sortedOb_spec {k : Nat} (l : List AV) (M : List AObj) (o : Out) (h : sortedS k l M = some o) (hb : sortedOb l M = true) : o.obl := by
  unfold sortedS at h
  split at h
  · rename_i k' i
    split at h
    · split at h
      · rename_i es hM
        cases h
        simp only [sortedOb, hM, Bool.and_eq_true, decide_eq_true_eq] at hb
        exact ⟨fun e he => isI64_spec (List.all_eq_true.1 hb.1 e he), hb.2⟩
      · rename_i Q hM
        simp only [sortedOb, hM] at hb
        cases hb
      · cases h
    · cases h
  · cases h
def sortedSOb (l : List AV) (M : List AObj) : Bool := match l with
  | [.fn _ [.mp i]] => match M[i]? with
    | some (.mapo es) => (es.all fun e => isStr e.1) && decide (KeysBS (keysVS es))
    | _ => false
  | _ => false
theorem sortedSOb_spec {k : Nat} (l : List AV) (M : List AObj) (o : Out) (h : sortedSS k l M = some o) (hb : sortedSOb l M = true) : o.obl := by
  unfold sortedSS at h
  split at h
  · rename_i k' i
    split at h
    · split at h
      · rename_i es hM
        cases h
        simp only [sortedSOb, hM, Bool.and_eq_true, decide_eq_true_eq] at hb
        exact ⟨fun e he => isStr_spec (List.all_eq_true.1 hb.1 e he), hb.2⟩
      · cases h
    · cases h
  · cases h
def cloneOb (n b : Nat) (l : List AV) (M : List AObj) : Bool := match l with
  | [.sl els _] => lensB n els && decide (AppB 0 (lenL els) b) && !marked M
  | _ => false
theorem cloneOb_spec {n b : Nat} (l : List AV) (M : List AObj) (o : Out) (h : cloneS n b l M = some o) (hb : cloneOb n b l M = true) : o.obl := by
  unfold cloneS at h
  split at h
  · cases h
    simp only [cloneOb, Bool.and_eq_true, decide_eq_true_eq, Bool.not_eq_true'] at hb
    exact ⟨lensB_spec hb.1.1, hb.1.2, hb.2⟩
  · cases h
def runeOb (l : List AV) (_ : List AObj) : Bool := match l with
  | [.lit (.int _ r)] => decide (I32B r)
  | _ => false
end
end Go.Ab
end
section
namespace Go.Proofs
open Go.Shelf
def Tryz.sortL_ren : Go.Shelf.Ren := ⟨fun | 6 => 358 | 15 => 335 | 14 => 424 | 28 => 399 | 29 => 400 | 20 => 450 | 21 => 451 | 22 => 452 | 23 => 453 | 24 => 454 | 25 => 455 | 26 => 456 | 27 => 457 | 46 => 466 | 47 => 438 | 48 => 439 | 49 => 467 | 50 => 468 | 57 => 479 | n => n, fun | 22 => 321 | 24 => 303 | 25 => 442 | 3 => 3 | 39 => 85 | 0 => 0 | 53 => 116 | 55 => 114 | 4 => 4 | 46 => 613 | 45 => 612 | 50 => 106 | 5 => 5 | 9 => 9 | 66 => 647 | 70 => 651 | 76 => 667 | 77 => 405 | n => n, fun | n => n⟩
theorem Tryz.sortL : Go.Proofs.SlLaysF0.n6 Tryz.prog Tryz.sortL_ren := {
  mixed := by kernel_rfl
  f6 := ⟨Tryz.f358.name, by decide, Tryz.func358.trans (congrArg some (by kernel_rfl))⟩
  f14 := ⟨Tryz.f424.name, by decide, Tryz.func424.trans (congrArg some (by kernel_rfl))⟩
  f15 := Tryz.func335.trans (congrArg some (by kernel_rfl))
  f20 := ⟨Tryz.f450.name, by decide, Tryz.func450.trans (congrArg some (by kernel_rfl))⟩
  f21 := ⟨Tryz.f451.name, by decide, Tryz.func451.trans (congrArg some (by kernel_rfl))⟩
  f22 := ⟨Tryz.f452.name, by decide, Tryz.func452.trans (congrArg some (by kernel_rfl))⟩
  f23 := ⟨Tryz.f453.name, by decide, Tryz.func453.trans (congrArg some (by kernel_rfl))⟩
  f24 := ⟨Tryz.f454.name, by decide, Tryz.func454.trans (congrArg some (by kernel_rfl))⟩
  f25 := ⟨Tryz.f455.name, by decide, Tryz.func455.trans (congrArg some (by kernel_rfl))⟩
  f26 := ⟨Tryz.f456.name, by decide, Tryz.func456.trans (congrArg some (by kernel_rfl))⟩
  f27 := ⟨Tryz.f457.name, by decide, Tryz.func457.trans (congrArg some (by kernel_rfl))⟩
  f28 := Tryz.func399.trans (congrArg some (by kernel_rfl))
  f29 := Tryz.func400.trans (congrArg some (by kernel_rfl))
  f46 := ⟨Tryz.f466.name, by decide, Tryz.func466.trans (congrArg some (by kernel_rfl))⟩
  f47 := Tryz.func438.trans (congrArg some (by kernel_rfl))
  f48 := Tryz.func439.trans (congrArg some (by kernel_rfl))
  f49 := ⟨Tryz.f467.name, by decide, Tryz.func467.trans (congrArg some (by kernel_rfl))⟩
  f50 := ⟨Tryz.f468.name, by decide, Tryz.func468.trans (congrArg some (by kernel_rfl))⟩
  f57 := ⟨Tryz.f479.name, by decide, Tryz.func479.trans (congrArg some (by kernel_rfl))⟩
  t0 := Tryz.underlying0
  a0 := Tryz.isAgg0
  z0 := Tryz.sizeOf0
  v0 := Tryz.zeroValue0
  t3 := Tryz.underlying3
  a3 := Tryz.isAgg3
  z3 := Tryz.sizeOf3
  v3 := Tryz.zeroValue3
  t4 := Tryz.underlying4
  a4 := Tryz.isAgg4
  z4 := Tryz.sizeOf4
  v4 := Tryz.zeroValue4
  t5 := Tryz.underlying5
  a5 := Tryz.isAgg5
  z5 := Tryz.sizeOf5
  v5 := Tryz.zeroValue5
  t9 := Tryz.underlying9
  a9 := Tryz.isAgg9
  z9 := Tryz.sizeOf9
  v9 := Tryz.zeroValue9
  t22 := Tryz.underlying321
  a22 := Tryz.isAgg321
  z22 := Tryz.sizeOf321
  v22 := Tryz.zeroValue321
  t25 := Tryz.underlying442
  a25 := Tryz.isAgg442
  z25 := Tryz.sizeOf442
  v25 := Tryz.zeroValue442
  t39 := Tryz.underlying85
  a39 := Tryz.isAgg85
  z39 := Tryz.sizeOf85
  v39 := Tryz.zeroValue85
  t45 := Tryz.underlying612
  a45 := Tryz.isAgg612
  z45 := Tryz.sizeOf612
  v45 := Tryz.zeroValue612
  t46 := Tryz.underlying613
  a46 := Tryz.isAgg613
  z46 := Tryz.sizeOf613
  v46 := Tryz.zeroValue613
  t50 := Tryz.underlying106
  a50 := Tryz.isAgg106
  z50 := Tryz.sizeOf106
  v50 := Tryz.zeroValue106
  t53 := Tryz.underlying116
  a53 := Tryz.isAgg116
  z53 := Tryz.sizeOf116
  v53 := Tryz.zeroValue116
  t55 := Tryz.underlying114
  a55 := Tryz.isAgg114
  z55 := Tryz.sizeOf114
  v55 := Tryz.zeroValue114
  t66 := Tryz.underlying647
  a66 := Tryz.isAgg647
  z66 := Tryz.sizeOf647
  v66 := Tryz.zeroValue647
  t70 := Tryz.underlying651
  a70 := Tryz.isAgg651
  z70 := Tryz.sizeOf651
  v70 := Tryz.zeroValue651
  t76 := Tryz.underlying667
  a76 := Tryz.isAgg667
  z76 := Tryz.sizeOf667
  v76 := Tryz.zeroValue667
  t77 := Tryz.underlying405
  a77 := Tryz.isAgg405
  z77 := Tryz.sizeOf405
  v77 := Tryz.zeroValue405 }
end Go.Proofs
end
section
namespace Go.Ab
/-! ### Numbers -/
theorem wrap64_of {n : Int} (h0 : -9223372036854775808 ≤ n) (h1 : n < 9223372036854775808) : IntKind.i64.wrap n = n := by
  rw [IntKind.wrap_i64]; omega

theorem and_mask {j : Nat} (hj : j ≤ 62) (a m : Int) (hm : m = 2 ^ j - 1) : IntKind.i64.wrap ((BitVec.ofInt IntKind.i64.bits a &&& BitVec.ofInt IntKind.i64.bits m).toNat : Nat) = a % 2 ^ j := by
  have hb : IntKind.i64.bits = 64 := rfl
  have hp : (2 : Int) ^ j ≤ 2 ^ 62 := by
    have : (2 : Nat) ^ j ≤ 2 ^ 62 := Nat.pow_le_pow_right (by omega) hj
    exact_mod_cast this
  have h0 : (0 : Int) < 2 ^ j := Int.pow_pos (by omega)
  have hm' : (BitVec.ofInt 64 m).toNat = 2 ^ j - 1 := by
    rw [BitVec.toNat_ofInt]
    have e : m % ((2 ^ 64 : Nat) : Int) = m := Int.emod_eq_of_lt (by omega) (by
      rw [hm]
      have : (2 : Int) ^ 62 < ((2 ^ 64 : Nat) : Int) := by decide
      omega)
    rw [e, hm]
    have : ((2 ^ j : Nat) : Int) = (2 : Int) ^ j := by push_cast; rfl
    rw [← this]; omega
  rw [hb, BitVec.toNat_and, hm', Nat.and_two_pow_sub_one_eq_mod, BitVec.toNat_ofInt]
  have e1 : (((a % ((2 ^ 64 : Nat) : Int)).toNat % 2 ^ j : Nat) : Int) = a % 2 ^ j := by
    rw [Int.natCast_emod, Int.toNat_of_nonneg (Int.emod_nonneg _ (by decide)), Int.natCast_pow]
    refine Int.emod_emod_of_dvd _ ?_
    have : ((2 ^ j : Nat) : Int) ∣ ((2 ^ 64 : Nat) : Int) := Int.natCast_dvd_natCast.2 (Nat.pow_dvd_pow 2 (by omega))
    simpa only [Int.natCast_pow] using this
  rw [e1]
  have h2 := Int.emod_nonneg a (b := (2 : Int) ^ j) (by omega)
  have h3 := Int.emod_lt_of_pos a h0
  exact wrap64_of (by omega) (by omega)
theorem and_mask' {j : Nat} (hj : j ≤ 62) (a m : Int) (hm : m = 2 ^ j - 1) : bitsOp .and .i64 a m = a % 2 ^ j := and_mask hj a m hm
end Go.Ab
end
section
namespace Go.Ab
theorem eqI_d (a b : Int) : eqI a b = decide (a = b) := by
  unfold eqI; by_cases h : a = b <;> simp [h]
theorem neI_d (a b : Int) : neI a b = decide (a ≠ b) := by
  unfold neI; by_cases h : a = b <;> simp [h]
theorem ltI_d (a b : Int) : ltI a b = decide (a < b) := rfl
theorem leI_d (a b : Int) : leqI a b = decide (a ≤ b) := rfl
theorem eqI_t {a b : Int} (h : a = b) : eqI a b = true := by rw [eqI_d]; exact decide_eq_true h
theorem eqI_f {a b : Int} (h : a ≠ b) : eqI a b = false := by rw [eqI_d]; exact decide_eq_false h
theorem neI_t {a b : Int} (h : a ≠ b) : neI a b = true := by rw [neI_d]; exact decide_eq_true h
theorem neI_f {a b : Int} (h : a = b) : neI a b = false := by rw [neI_d]; exact decide_eq_false (fun q => q h)
theorem ltI_t {a b : Int} (h : a < b) : ltI a b = true := decide_eq_true h
theorem ltI_f {a b : Int} (h : ¬ a < b) : ltI a b = false := decide_eq_false h
theorem leI_t {a b : Int} (h : a ≤ b) : leqI a b = true := decide_eq_true h
theorem leI_f {a b : Int} (h : ¬ a ≤ b) : leqI a b = false := decide_eq_false h
theorem eqB_d (a b : Bool) : eqB a b = decide (a = b) := by cases a <;> cases b <;> rfl
theorem neB_d (a b : Bool) : neB a b = decide (a ≠ b) := by cases a <;> cases b <;> rfl
theorem notB_d (a : Bool) : notB a = !a := rfl
theorem pickB_and (x y : Bool) : pickB x y false = (x && y) := by cases x <;> rfl
theorem pickB_or (x y : Bool) : pickB x true y = (x || y) := by cases x <;> rfl
theorem minI_d (a b : Int) : minI a b = min a b := rfl
theorem maxI_d (a b : Int) : maxI a b = max a b := rfl
theorem addI_n {a b : Int} (h0 : -9223372036854775808 ≤ a + b) (h1 : a + b < 9223372036854775808) : addI .i64 a b = a + b := wrap64_of h0 h1
theorem subI_n {a b : Int} (h0 : -9223372036854775808 ≤ a - b) (h1 : a - b < 9223372036854775808) : subI .i64 a b = a - b := wrap64_of h0 h1
theorem mulI_n {a b : Int} (h0 : -9223372036854775808 ≤ a * b) (h1 : a * b < 9223372036854775808) : mulI .i64 a b = a * b := wrap64_of h0 h1
theorem tdiv_bounds {a b : Int} (h : 0 ≤ a) (hb : 0 < b) : 0 ≤ a.tdiv b ∧ a.tdiv b ≤ a := by
  rw [Int.tdiv_eq_ediv_of_nonneg h]
  exact ⟨Int.ediv_nonneg h (by omega), Int.ediv_le_self _ h⟩
theorem quoI_n {a b : Int} (h : 0 ≤ a) (h2 : a < 9223372036854775808) (hb : 0 < b) : quoI .i64 a b = a / b := by
  have := tdiv_bounds h hb
  unfold quoI
  rw [wrap64_of (by omega) (by omega), Int.tdiv_eq_ediv_of_nonneg h]
theorem need_t {α : Type} {p : Prop} {x : Option α} (h : p) : need p x = x := by unfold need; rw [if_pos h]
@[simp] theorem need_true {α : Type} (x : Option α) : need True x = x := need_t trivial
@[simp] theorem flC_go {V X : Type} (v : V) (k : V → Option X) : flC (.go v) k = k v := rfl
@[simp] theorem flC_out {V X : Type} (x : X) (k : V → Option X) : flC (.out x) k = some x := rfl
@[simp] theorem bind_so {α β : Type} (x : α) (k : α → Option β) : (some x).bind k = k x := rfl
@[simp] theorem getD_so {α : Type} (x y : α) : (some x).getD y = x := rfl
theorem under_iff {e : Bool} {b : Bool} {p : Prop} : Under e b p ↔ (e = b → p) := Iff.rfl
theorem under_of {e : Bool} {b : Bool} {p : Prop} (h : p) : Under e b p := fun _ => h
theorem InB_iff {n m : Int} : InB n m ↔ 0 ≤ n ∧ n < m := Iff.rfl
theorem lenL_nn {α : Type} (l : List α) : 0 ≤ lenL l := by unfold lenL; omega
theorem optC_none {α β : Type} (x : α) (k : β → α) : optC (none : Option β) x k = x := rfl
theorem optC_some {α β : Type} (b : β) (x : α) (k : β → α) : optC (some b) x k = k b := rfl
theorem notB_t' : notB false = true := rfl
theorem notB_f' : notB true = false := rfl
/-- What a round must come to. -/
def RoundP {S T : Type} (I : S → Prop) (Q : T → Prop) (μ : S → Nat) (s : S) : Option (Fl S T) → Prop
  | some (.go s') => I s' ∧ μ s' < μ s
  | some (.out t) => Q t
  | none => False
theorem loop_ends {S T : Type} {body : S → Option (Fl S T)} (I : S → Prop) (Q : T → Prop) (μ : S → Nat) (h : ∀ s, I s → RoundP I Q μ s (body s)) (s : S) (hs : I s) : ∃ t, loopF body s = some t ∧ Q t :=
  loopF_ends I Q μ (fun s hI => by
    have q := h s hI
    cases hb : body s with
    | none => rw [hb] at q; exact q.elim
    | some f =>
      rw [hb] at q
      refine ⟨f, rfl, ?_⟩
      cases f <;> exact q) s hs
end Go.Ab
end

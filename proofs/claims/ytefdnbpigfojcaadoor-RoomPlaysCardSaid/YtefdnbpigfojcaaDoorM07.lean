/- That these functions compute what their plain functions do. No condition. -/
import Derived.Test.YtefdnbpigfojcaaDoorM10
import Derived.Test.YtefdnbpigfojcaaDoorTy
import Derived.Test.YtefdnbpigfojcaaDoorHb
import Derived.Test.YtefdnbpigfojcaaDoorHa
import Derived.Test.YtefdnbpigfojcaaDoorNq
import Derived.Shelf.Strings.CaseAny
section
namespace Go.Proofs
open Go.Ab
@[simp] def gLaw12Awake.out  (r : Bool) : Out := { av := .lit (.bool r), M := none }
def gLaw12Awake.fin  (r : Bool) (σ : St) : Prop := finK (gLaw12Awake.out  r) [] σ.M (resA Tryd.ty σ.A σ.M Tryd.f8.results.toList)
set_option maxHeartbeats 4000000 in
set_option maxRecDepth 100000 in
theorem gLaw12Awake.can  (r : Bool) (hr : gLaw12Awake = some r) : CallOk Tryd.prog 8 [] [] (gLaw12Awake.out  r) := by
  unfold gLaw12Awake at hr
  have hΓ := (gamL_cons gRoomTableJoin.ok (gamL_cons gRoomTableLen.ok (gamL_cons gRoomTableTogether.ok (gamL_cons gRoomNew.ok (gamL_nil)))) : GamOk Tryd.prog _)
  refine call_of_awp Tryd.tyOk Tryd.func8 rfl (by kernel_rfl) rfl rfl (by simp) ?_
  intro _ _ _
  refine AWp.then ⟨[], []⟩ (AWp.reg Tryd.tyOk hΓ (keep := []) (dead := []) (by kernel_rfl) rfl (by simp)) ?_
  obtain ⟨r1, h7, hr⟩ := bind_some' hr
  refine AWp.then ⟨[⟨1, none, .ptr 1 0⟩], [.mapo (encM (kI .i64) (vA Antiphonref12Peer.enc) r1.fPeers), .blk [.mp 0, .lit (.int .i64 r1.fNext)]]⟩ (AWp.reg Tryd.tyOk hΓ (keep := [1]) (dead := []) (by kernel_rfl) rfl (by simp [h7])) ?_
  refine AWp.seq ?_
  refine AWp.then ⟨[⟨10, none, .lit (.bool false)⟩, ⟨1, none, .ptr 1 0⟩], [.mapo (encM (kI .i64) (vA Antiphonref12Peer.enc) r1.fPeers), .blk [.mp 0, .lit (.int .i64 r1.fNext)]]⟩ (AWp.reg Tryd.tyOk hΓ (keep := [10]) (dead := []) (by kernel_rfl) rfl (by simp)) ?_
  refine AWp.cond (b := false) (by simp) (fun hb => ?_) (fun hb => ?_)
  · cases hb
  · refine AWp.skip ?_
    obtain ⟨r2, h8, hr⟩ := bind_some' hr
    refine AWp.then ⟨[⟨2, none, .lit (.int .i64 r2.1)⟩, ⟨3, none, .lit (.int .i64 r2.2.1)⟩, ⟨1, none, .ptr 1 0⟩], [.mapo (encM (kI .i64) (vA Antiphonref12Peer.enc) r2.2.2.fPeers), .blk [.mp 0, .lit (.int .i64 r2.2.2.fNext)]]⟩ (AWp.reg Tryd.tyOk hΓ (keep := [2, 3]) (dead := [10]) (by kernel_rfl) rfl (by simp [h8])) ?_
    obtain ⟨r3, h9, hr⟩ := bind_some' hr
    refine AWp.then ⟨[⟨5, none, .lit (.int .i64 r3.2.1)⟩, ⟨2, none, .lit (.int .i64 r2.1)⟩, ⟨3, none, .lit (.int .i64 r2.2.1)⟩, ⟨1, none, .ptr 1 0⟩], [.mapo (encM (kI .i64) (vA Antiphonref12Peer.enc) r3.2.2.fPeers), .blk [.mp 0, .lit (.int .i64 r3.2.2.fNext)]]⟩ (AWp.reg Tryd.tyOk hΓ (keep := [5]) (dead := []) (by kernel_rfl) rfl (by simp [h9])) ?_
    obtain ⟨r4, h10, hr⟩ := bind_some' hr
    refine AWp.then ⟨[⟨6, none, .lit (.int .i64 r4.1)⟩, ⟨7, none, .lit (.int .i64 r4.2.1)⟩, ⟨5, none, .lit (.int .i64 r3.2.1)⟩, ⟨2, none, .lit (.int .i64 r2.1)⟩, ⟨3, none, .lit (.int .i64 r2.2.1)⟩, ⟨1, none, .ptr 1 0⟩], [.mapo (encM (kI .i64) (vA Antiphonref12Peer.enc) r4.2.2.fPeers), .blk [.mp 0, .lit (.int .i64 r4.2.2.fNext)]]⟩ (AWp.reg Tryd.tyOk hΓ (keep := [6, 7]) (dead := []) (by kernel_rfl) rfl (by simp [h10])) ?_
    obtain ⟨h11, hr⟩ := need_some hr
    obtain ⟨h12, hr⟩ := need_some hr
    refine AWp.then ⟨[⟨0, none, .lit (.bool (pickB (pickB (pickB (pickB (pickB (pickB (eqI r2.1 0) (eqI r2.2.1 0) false) (eqI r3.2.1 10) false) (eqI r4.1 1) false) (eqI r4.2.1 0) false) ((gRoomTableTogether r4.2.2 0 1).getD dflt) false) (eqI ((gRoomTableLen r4.2.2).getD dflt) 2) false))⟩], [.mapo (encM (kI .i64) (vA Antiphonref12Peer.enc) r4.2.2.fPeers), .blk [.mp 0, .lit (.int .i64 r4.2.2.fNext)]]⟩ (AWp.reg Tryd.tyOk hΓ (keep := [0]) (dead := [6, 7, 5, 2, 3, 1]) (by kernel_rfl) rfl (by simp [h11, h12])) ?_
    refine AWp.ret ?_
    obtain rfl := some_inj hr
    refine fin_ret ?_
    simp

@[simp] noncomputable def gLaw12Awake.S : Sp
  | [], _ => some { av := .lit (.bool (gLaw12Awake.getD dflt)), M := none, obl := gLaw12Awake.isSome = true }
  | _, _ => none

set_option maxHeartbeats 1000000 in
theorem gLaw12Awake.ok : SpecOk Tryd.prog 8 gLaw12Awake.S := by
  intro l M out h
  unfold gLaw12Awake.S at h
  split at h
  · cases h
    refine callOk_of fun ho => ?_
    have hs := ho
    obtain ⟨r, hr⟩ := Option.isSome_iff_exists.1 hs
    simp only [hr, Option.getD_some]
    have q := call_frame (M := M) [] (gLaw12Awake.can r hr) (by simp) rfl (by intro k i hk; simp at hk)
    exact callOk_conv q trivial (by simp) (by simp [frameOut, gLaw12Awake.out]) (by simp [frameOut, gLaw12Awake.out])
  · cases h
end Go.Proofs
end
section
namespace Go.Proofs
open Go.Ab Go.Lib

/-! ### Folded -/
theorem lower_rng {r : Int} (h0 : 0 ≤ r) (h1 : r ≤ 1114111) : I32B (lowerR r) := by
  obtain ⟨n, rfl⟩ : ∃ n : Nat, r = n := ⟨r.toNat, by omega⟩
  have := toLowerU_range n (by omega)
  unfold lowerR
  exact ⟨by omega, by omega⟩
theorem lower_S (s : ByteArray) (pos : Nat) : I32B (lowerR (runeS s pos)) := by
  rw [runeS_d]
  have := rune_rng (restS s pos)
  exact lower_rng this.1 this.2
/-- A text with small letters. -/
noncomputable def foldS (s : ByteArray) : ByteArray := runesBytes ((scan s 0).map lowerR)
theorem foldS_b (s : ByteArray) : bytesOf (foldS s) = ((scan s 0).map lowerR).flatMap encodeRune := runes_b _
theorem runeZ_len (r : Int) : 1 ≤ (runeZ r).length ∧ (runeZ r).length ≤ 4 := encodeRuneZ_length r

theorem fold_loop (s : ByteArray) : ∀ (m pos : Nat) (out : List Int), (restS s pos).length ≤ m → out.length + 4 * m ≤ 100000000 →
    loopF (gLabelFold.loop1 s) (out, pos) = some (.go (out ++ (scan s pos).flatMap fun r => runeZ (lowerR r))) := by
  intro m
  induction m with
  | zero =>
    intro pos out hm _
    have h : restS s pos = [] := List.eq_nil_of_length_eq_zero (by omega)
    rw [loopF_eq]
    simp [gLabelFold.loop1, nextB_f h, scan_f h]
  | succ m ih =>
    intro pos out hm hb
    by_cases h : restS s pos = []
    · rw [loopF_eq]
      simp [gLabelFold.loop1, nextB_f h, scan_f h]
    have hst := step_gt s pos
    have hl := restS_len s pos
    have hl' := restS_len s (stepS s pos)
    have hpos := List.length_pos_iff.2 h
    have hz := runeZ_len (lowerR (runeS s pos))
    rw [loopF_eq, scan_t h]
    simp only [gLabelFold.loop1, nextB_t h, cond_true]
    rw [need_t (lower_S s pos), need_t (by unfold AppB lenL; omega)]
    simp only []
    rw [ih _ _ (by omega) (by simp only [appL, List.length_append]; omega)]
    simp [appL]

theorem fold_d {s : ByteArray} (hs : s.size ≤ 1000000) (h0 : bytesOf s ≠ []) : gLabelFold s = some (foldS s) := by
  unfold gLabelFold
  rw [fold_loop s s.size 0 [] (by rw [restS_len]; exact Nat.le_refl _) (by simp only [List.length_nil]; omega)]
  simp only [bind_so, flC_go, List.nil_append]
  have e : ((scan s 0).flatMap fun r => runeZ (lowerR r)) = ((scan s 0).map lowerR).flatMap runeZ := by rw [List.flatMap_map]
  rw [e, need_t]
  · congr 1
    exact bytes_ext (by rw [numsRune_b, foldS_b])
  · refine ⟨?_, fun x hx => ?_⟩
    · have hb0 : restS s 0 = bytesOf s := rfl
      rw [scan_t (by rw [hb0]; exact h0), List.map_cons, List.flatMap_cons]
      intro q
      have := congrArg List.length q
      have hz := runeZ_len (lowerR (runeS s 0))
      simp only [List.length_append, List.length_nil] at this
      omega
    · obtain ⟨r, _, hx⟩ := List.mem_flatMap.1 hx
      exact encodeRuneZ_byte r x hx

theorem rfold_loop (s : ByteArray) : ∀ (m pos : Nat) (out : List Int), (restS s pos).length ≤ m → out.length + m ≤ 10000000 →
    loopF (gRef06Fold.loop1 s) (out, pos) = some (.go (out ++ (scan s pos).map lowerR)) := by
  intro m
  induction m with
  | zero =>
    intro pos out hm _
    have h : restS s pos = [] := List.eq_nil_of_length_eq_zero (by omega)
    rw [loopF_eq]
    simp [gRef06Fold.loop1, nextB_f h, scan_f h]
  | succ m ih =>
    intro pos out hm hb
    by_cases h : restS s pos = []
    · rw [loopF_eq]
      simp [gRef06Fold.loop1, nextB_f h, scan_f h]
    have hst := step_gt s pos
    have hl := restS_len s pos
    have hl' := restS_len s (stepS s pos)
    have hpos := List.length_pos_iff.2 h
    rw [loopF_eq, scan_t h]
    simp only [gRef06Fold.loop1, nextB_t h, cond_true]
    rw [need_t (by unfold AppB lenL; omega)]
    simp only []
    rw [ih _ _ (by omega) (by simp only [appL, List.length_append, List.length_cons, List.length_nil]; omega)]
    simp [appL]
theorem rfold_d {s : ByteArray} (hs : s.size ≤ 1000000) : gRef06Fold s = some (foldS s) := by
  unfold gRef06Fold
  rw [rfold_loop s s.size 0 [] (by rw [restS_len]; exact Nat.le_refl _) (by simp only [List.length_nil]; omega)]
  rfl
theorem same_d {a b : ByteArray} (ha : a.size ≤ 1000000) (hb : b.size ≤ 1000000) (ha0 : bytesOf a ≠ []) (hb0 : bytesOf b ≠ []) : gLabelSame a b = some (eqS (foldS a) (foldS b)) := by
  unfold gLabelSame
  rw [fold_d ha ha0, fold_d hb hb0]
  rfl
theorem eqS_comm' (a b : ByteArray) : eqS a b = eqS b a := by
  rw [eqS_b, eqS_b]
  by_cases h : bytesOf a = bytesOf b
  · rw [decide_eq_true h, decide_eq_true h.symm]
  · rw [decide_eq_false h, decide_eq_false fun q => h q.symm]
theorem eqS_self (a : ByteArray) : eqS a a = true := (eqS_iff a a).2 rfl
end Go.Proofs
end

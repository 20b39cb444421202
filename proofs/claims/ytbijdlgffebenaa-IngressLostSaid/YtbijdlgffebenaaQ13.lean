/- The stream of packets; the beginning; the answers that the document fixes. No condition. -/
import Derived.Test.YtbijdlgffebenaaJh
import Derived.KernelRfl
import Derived.Test.YtbijdlgffebenaaQ03
section
namespace Go.Proofs
open Go.Ab

theorem text_plain (b : Bool) : gab (Td.mk false b 0 (-1) false (-1) (-1) false (-1)) = some ⟨#[bif b then 16 else 0]⟩ := by
  unfold gab
  have e1 : gaj (Td.mk false b 0 (-1) false (-1) (-1) false (-1)) = some false := rfl
  rw [e1]
  cases b
  · simp only [Lb, gao, cond_true, cond_false, notB_t']
    rw [Le (by decide), Le (by decide)]
    rfl
  · simp only [Lb, gao, cond_true, cond_false, notB_t']
    rw [Le (by decide), Le (by decide)]
    rfl
def payM (i k : Int) : ByteArray := catS ⟨#[bif eqI k 0 then 16 else 0]⟩ (strOfNums [if i % 3 = 0 then 0 else 1, cvtI .u8 i, cvtI .u8 k])
def pktM (first i k n j : Int) : Pk := .mk (eqI k (n - 1)) 96 (addI .u16 first (cvtI .u16 j)) (cvtI .u32 (mulI .i64 3000 i)) 7 [] false 0 ⟨#[]⟩ (payM i k) 0
theorem pay_size (i k : Int) : (payM i k).size = 4 := by
  unfold payM catS
  rw [ByteArray.size_append]
  cases eqI k 0 <;> rfl
theorem pay_len (i k : Int) : lenS (payM i k) = 4 := by
  show ((payM i k).size : Int) = 4
  rw [pay_size]; rfl
theorem pkt_ok (first i k n j : Int) : POk (pktM first i k n j) := by
  refine ⟨?_, ?_, ?_, ?_, ?_⟩
  · show 0 ≤ IntKind.u16.wrap _
    rw [wrapU16]; omega
  · show IntKind.u16.wrap _ < _
    rw [wrapU16]; omega
  · show 0 ≤ IntKind.u32.wrap _
    rw [wrapU32]; omega
  · show IntKind.u32.wrap _ < _
    rw [wrapU32]; omega
  · show lenS (payM i k) ≤ 40
    rw [pay_len]; decide

def pictL (first i n : Int) : Nat → Int → List Pk → List Pk
  | 0, _, acc => acc
  | f + 1, k, acc => if k < n then pictL first i n f (k + 1) (acc ++ [pktM first i k n (lenL acc)]) else acc
def streamL (first : Int) (cuts : List Int) : Nat → Int → List Pk → List Pk
  | 0, _, acc => acc
  | f + 1, i, acc => if i < lenL cuts ∧ lenL acc < 56 then streamL first cuts f (i + 1) (pictL first i (1 + nthI cuts i % 4) 4 0 acc) else acc

theorem pict_len {first i n : Int} : ∀ (f : Nat) (k : Int) (acc : List Pk), acc.length ≤ (pictL first i n f k acc).length ∧ (pictL first i n f k acc).length ≤ acc.length + f
  | 0, _, acc => ⟨Nat.le_refl _, Nat.le_refl _⟩
  | f + 1, k, acc => by
    unfold pictL
    split
    · have := pict_len (first := first) (i := i) (n := n) f (k + 1) (acc ++ [pktM first i k n (lenL acc)])
      simp only [List.length_append, List.length_cons, List.length_nil] at this
      omega
    · omega
theorem pict_one {first i n : Int} (hn : 1 ≤ n) (acc : List Pk) : acc.length + 1 ≤ (pictL first i n 4 0 acc).length := by
  unfold pictL
  rw [if_pos (by omega)]
  have := (pict_len (first := first) (i := i) (n := n) 3 (0 + 1) (acc ++ [pktM first i 0 n (lenL acc)])).1
  simp only [List.length_append, List.length_cons, List.length_nil] at this
  omega
theorem pict_ok {first i n : Int} : ∀ (f : Nat) (k : Int) (acc : List Pk), (∀ p ∈ acc, POk p) → ∀ p ∈ pictL first i n f k acc, POk p
  | 0, _, _, h => h
  | f + 1, k, acc, h => by
    unfold pictL
    split
    · refine pict_ok f _ _ fun p hp => ?_
      rcases List.mem_append.1 hp with hp | hp
      · exact h p hp
      · rw [List.mem_singleton.1 hp]; exact pkt_ok _ _ _ _ _
    · exact h
theorem stream_ok {first : Int} {cuts : List Int} : ∀ (f : Nat) (i : Int) (acc : List Pk), (∀ p ∈ acc, POk p) → acc.length ≤ 60 → (∀ p ∈ streamL first cuts f i acc, POk p) ∧ (streamL first cuts f i acc).length ≤ 60
  | 0, _, _, h, hl => ⟨h, hl⟩
  | f + 1, i, acc, h, hl => by
    unfold streamL
    split
    · rename_i hc
      have h56 := hc.2
      rw [lenL_def] at h56
      refine stream_ok f _ _ (pict_ok _ _ _ h) ?_
      have := (pict_len (first := first) (i := i) (n := 1 + nthI cuts i % 4) 4 0 acc).2
      omega
    · exact ⟨h, hl⟩

theorem and3 (a : Int) : bitsOp .and .i64 a 3 = a % 4 := and_mask' (j := 2) (by omega) a 3 rfl
theorem rem3 {i : Int} (h : 0 ≤ i) : eqI (remI i 3) 0 = decide (i % 3 = 0) := by
  rw [eqI_d]; unfold remI
  rw [Int.tmod_eq_emod_of_nonneg h]

theorem pict_loop (first : Int) (cuts : List Int) (i : Int) (l0 : List Pk) (hi0 : 0 ≤ i) : ∀ (f : Nat) (k : Int) (acc : List Pk), 0 ≤ k → (1 + nthI cuts i % 4) - k ≤ f → acc.length + f ≤ 1000 →
    loopF (gj.loop2 first cuts (i, l0)) (k, acc) = some (.go (pictL first i (1 + nthI cuts i % 4) f k acc)) := by
  have hn : addI .i64 1 (bitsOp .and .i64 (nthI cuts i) 3) = 1 + nthI cuts i % 4 := by rw [and3, addI_n (by omega) (by omega)]
  have stop : ∀ (k : Int) (acc : List Pk), ¬ k < 1 + nthI cuts i % 4 → gj.loop2 first cuts (i, l0) (k, acc) = some (.out (.go acc)) := fun k acc hk => by
    unfold gj.loop2
    simp only
    rw [hn, ltI_d, decide_eq_false hk, cond_false]
  intro f
  induction f with
  | zero =>
    intro k acc hk hf _
    rw [loopF_eq, stop k acc (by omega)]; rfl
  | succ f ih =>
    intro k acc hk hf hl
    unfold pictL
    by_cases hlt : k < 1 + nthI cuts i % 4
    · rw [if_pos hlt]
      have : gj.loop2 first cuts (i, l0) (k, acc) = some (.go (k + 1, acc ++ [pktM first i k (1 + nthI cuts i % 4) (lenL acc)])) := by
        unfold gj.loop2
        simp only
        rw [hn, ltI_d, decide_eq_true hlt, cond_true]
        unfold gac
        rw [Lb, Le (show NonZ 3 by decide), rem3 hi0]
        have hs : subI .i64 (1 + nthI cuts i % 4) 1 = (1 + nthI cuts i % 4) - 1 := subI_n (by omega) (by omega)
        have hb : (bif decide (i % 3 = 0) then (some (.go 0) : Option (Fl Int (Fl (Int × List Pk) (Fl (List Pk) (Fl (Int × List Pk) (Fl (List Pk) (List Pk))))))) else some (.go 1)) = some (.go (if i % 3 = 0 then 0 else 1)) := by
          by_cases h3 : i % 3 = 0
          · rw [decide_eq_true h3, if_pos h3]; rfl
          · rw [decide_eq_false h3, if_neg h3]; rfl
        rw [hb, Lb, flC_go]
        simp only
        rw [text_plain, Lb, Le (show CatB _ _ from by show (1 + 3 : Nat) ≤ 9223372036854775807; decide), Le (show AppB (lenL acc) 1 88 from ⟨by rw [lenL_def]; omega, by rw [lenL_def]; omega⟩), addI_n (by omega) (by omega), hs]
        rfl
      rw [loopF_eq, this]
      exact ih (k + 1) _ (by omega) (by omega) (by simp; omega)
    · rw [if_neg hlt, loopF_eq, stop k acc hlt]

theorem stream_loop (first : Int) (cuts : List Int) : ∀ (f : Nat) (i : Nat) (acc : List Pk), acc.length ≤ 60 → 57 ≤ f + acc.length → i ≤ 1000 →  i + f ≤ 1000 →
    loopF (gj.loop1 first cuts) ((i : Int), acc) = some (.go (streamL first cuts f i acc)) := by
  have stop : ∀ (i : Nat) (acc : List Pk), ¬ ((i : Int) < lenL cuts ∧ lenL acc < 56) → gj.loop1 first cuts ((i : Int), acc) = some (.out (.go acc)) := fun i acc h => by
    unfold gj.loop1
    simp only
    rw [ltI_d, ltI_d, pickB_and, ← Bool.decide_and, decide_eq_false h, cond_false]
  intro f
  induction f with
  | zero =>
    intro i acc hl hf _ _
    rw [loopF_eq, stop i acc (fun h => by have := h.2; rw [lenL_def] at this; omega)]; rfl
  | succ f ih =>
    intro i acc hl hf hi hif
    unfold streamL
    by_cases hc : (i : Int) < lenL cuts ∧ lenL acc < 56
    · rw [if_pos hc]
      have h56 := hc.2
      rw [lenL_def] at h56
      have : gj.loop1 first cuts ((i : Int), acc) = some (.go (((i + 1 : Nat) : Int), pictL first i (1 + nthI cuts i % 4) 4 0 acc)) := by
        unfold gj.loop1
        simp only
        rw [ltI_d, ltI_d, pickB_and, ← Bool.decide_and, decide_eq_true hc, cond_true, Le ⟨by omega, hc.1⟩, pict_loop first cuts i acc (by omega) 4 0 acc (by omega) (by omega) (by omega), Lb, flC_go, addI_n (by omega) (by omega)]
        rfl
      have p1 := pict_one (first := first) (i := (i : Int)) (n := 1 + nthI cuts i % 4) (by omega) acc
      have p2 := (pict_len (first := first) (i := (i : Int)) (n := 1 + nthI cuts i % 4) 4 0 acc).2
      rw [loopF_eq, this]
      exact ih (i + 1) _ (by omega) (by omega) (by omega) (by omega)
    · rw [if_neg hc, loopF_eq, stop i acc hc]
theorem stream_eq (first : Int) (cuts : List Int) : gj first cuts = some (streamL first cuts 57 0 []) := by
  unfold gj
  have := stream_loop first cuts 57 0 [] (by simp) (by simp) (by omega) (by omega)
  have h0 : ((0 : Nat) : Int) = 0 := rfl
  rw [h0] at this
  rw [this]; rfl

/-! ### The beginning -/
def cfgM (video : Bool) (most wait units : Int) : Tu := .mk ⟨most, wait⟩ ⟨video, 400, units, wait⟩
def src0 (video : Bool) (most wait units : Int) : Tf := .mk (.mk ⟨most, wait⟩ false 0 [] 0) (.mk ⟨video, 400, units, wait⟩ ⟨[]⟩ 0 0) ⟨false, 0, 0, 0, 0⟩ ⟨false, 0⟩ [] 0 0
def ref0 (video : Bool) (most wait units : Int) : Te := .mk ⟨false, 0, -1, 0, 0⟩ (-1) ⟨most, wait, false, 0, [], 0⟩ (.mk video 400 units wait [] 0 0) [] 0 0
theorem new_src {video : Bool} {most wait units : Int} (h0 : 1 ≤ most) (h1 : most ≤ 1024) (h2 : 0 ≤ wait) (h3 : wait ≤ 1099511627776) (h4 : 1 ≤ units) (h5 : units ≤ 8) :
    gY (cfgM video most wait units) = some (some (src0 video most wait units), 0) := by
  unfold gY cfgM
  simp only
  rw [new_ok h0 h1 h2 h3, Lb]
  simp only
  rw [optC_some, show neI 0 0 = false from rfl, cond_false, frame_new _ ⟨by show (1 : Int) ≤ 400; decide, by show (400 : Int) ≤ 1048576; decide, h4, by simp only; omega, h2, h3⟩, Lb]
  simp only
  rw [optC_some, show neI 0 0 = false from rfl, cond_false]
  rfl
theorem rel0 (video : Bool) (most wait units : Int) : SRel (src0 video most wait units) (ref0 video most wait units) ⟨video, 400, units, wait⟩ :=
  ⟨newS_rel most wait, rfl, ⟨rfl, rfl, rfl, rfl, fun h => by cases h⟩, ⟨rfl, fun h => by cases h⟩, List.Perm.refl _, rfl, rfl⟩
theorem ok0 {video : Bool} {most wait units : Int} (h0 : 1 ≤ most) (h1 : most ≤ 1024) (h4 : 1 ≤ units) (h5 : units ≤ 8) : SOk (ref0 video most wait units) ⟨video, 400, units, wait⟩ 2000000 0 :=
  ⟨⟨fun h => (by cases h), fun _ => rfl, .inl ⟨rfl, rfl⟩⟩, newS_inv h0 h1, rfl, held_nil h4 h5, fun _ h => (by cases h), Nat.le_refl _, fun _ h => (by cases h)⟩
theorem config_eq (video : Bool) (most wait units : Int) : ∃ a b c, gU video most wait units = some (cfgM video a b c) ∧ 1 ≤ a ∧ a ≤ 40 ∧ 0 ≤ b ∧ b ≤ 31 ∧ 1 ≤ c ∧ c ≤ 8 := by
  unfold gU
  rw [Le (show NonZ 40 by decide)]
  have m255 : bitsOp .and .i64 most 255 = most % 256 := and_mask' (j := 8) (by omega) most 255 rfl
  have m31 : bitsOp .and .i64 wait 31 = wait % 32 := and_mask' (j := 5) (by omega) wait 31 rfl
  have m7 : bitsOp .and .i64 units 7 = units % 8 := and_mask' (j := 3) (by omega) units 7 rfl
  have r40 : remI (most % 256) 40 = (most % 256) % 40 := by unfold remI; exact Int.tmod_eq_emod_of_nonneg (by omega)
  rw [m255, m31, m7, r40, addI_n (by omega) (by omega), addI_n (by omega) (by omega)]
  exact ⟨_, _, _, rfl, by omega, by omega, by omega, by omega, by omega, by omega⟩
theorem begin_eq {video : Bool} {most wait units : Int} (h0 : 1 ≤ most) (h1 : most ≤ 1024) (h2 : 0 ≤ wait) (h3 : wait ≤ 1099511627776) (h4 : 1 ≤ units) (h5 : units ≤ 8) :
    gad (cfgM video most wait units) = some (some (src0 video most wait units), ref0 video most wait units, true) := by
  unfold gad
  rw [new_src h0 h1 h2 h3 h4 h5, Lb]
  rfl

/-! ### The answers that the document fixes -/
theorem pars_plain {s : ByteArray} (hl : 1 ≤ lenS s) (ha : idxS s 0 ≤ 127) :
    parsP s = (Td.mk (ltI 0 (bitsOp .and .u8 (idxS s 0) 32)) (ltI 0 (bitsOp .and .u8 (idxS s 0) 16)) (cvtI .i64 (bitsOp .and .u8 (idxS s 0) 7)) (-1) false (-1) (-1) false (-1), cutS s 1 (lenS s), 0) := by
  have h := rparse s
  have hu : u8P s 0 = (idxS s 0, cutS s 1 (lenS s), 0) := by
    unfold u8P
    rw [if_neg (by simp), if_neg (by omega)]
  have a32 := pA32 s 0
  have a16 := pA16 s 0
  have a8 := pA8 s 0
  rw [hu] at a32 a16 a8
  simp only at a32 a16 a8
  unfold gay at h
  rw [rtake, hu, Lb] at h
  simp only at h
  rw [Le (nz (show (32 : Int) ≠ 0 by decide)), Le (nz (show (2 : Int) ≠ 0 by decide)), Le (nz (show (16 : Int) ≠ 0 by decide)), Le (nz (show (2 : Int) ≠ 0 by decide)), Le (nz (show (8 : Int) ≠ 0 by decide)), a32, a16, a8,
    ltI_f (show ¬ 127 < idxS s 0 by omega), cond_false, Lb, flC_go] at h
  unfold gaF gaE at h
  simp only [Le (nz (show (128 : Int) ≠ 0 by decide)), Le (nz (show (64 : Int) ≠ 0 by decide)), Le (nz (show (2 : Int) ≠ 0 by decide)), Le (nz (show (16 : Int) ≠ 0 by decide)), Le (nz (show (4 : Int) ≠ 0 by decide)), y128, y64, y48, cond_false, Lb, flC_go] at h
  exact (Option.some.inj h).symm
end Go.Proofs
end
section
namespace Go.Proofs
open Go.Ab

def cA : Tp := ⟨true, 400, 2, 9⟩
def pA0 : Pk := pktM 5 0 0 2 0
def pA1 : Pk := pktM 5 0 1 2 1
def tA0 : Thg := ⟨1048581, ⟨#[]⟩, 0⟩
def tA1 : Thg := ⟨1048582, ⟨#[]⟩, 0⟩
def LA1 : List Came := [⟨1048581, pA0⟩]
def LA2 : List Came := [⟨1048581, pA0⟩, ⟨1048582, pA1⟩]
def uA0 : Un := .mk 1048581 68719476736 false true true (payM 0 0) 0
def uA1 : Un := .mk 1048582 68719476736 true false false (payM 0 1) 0
def xA1 : Te := .mk ⟨true, 1048581, -1, 0, 0⟩ 68719476736 ⟨10, 9, true, 1048582, [], 0⟩ (refOf cA [uA0] 0 0) LA1 0 0
def xA2 : Te := .mk ⟨true, 1048582, -1, 0, 0⟩ 68719476736 ⟨10, 9, true, 1048583, [], 0⟩ (refOf cA [] 1 0) LA2 0 1
def xA3 : Te := .mk ⟨true, 1048582, -1, 0, 0⟩ 68719476736 ⟨10, 9, true, 1048583, [], 0⟩ (refOf cA [] 1 0) LA2 1 1

theorem unitA0 : unitM true (-1) LA1 tA0 = (uA0, 68719476736) := by
  have hl : 1 ≤ lenS (payM 0 0) := by rw [pay_len]; decide
  have hi : idxS (payM 0 0) 0 = 16 := by kernel_rfl
  have hf : findP LA1 tA0.fAt = pA0 := by kernel_rfl
  unfold unitM
  simp only
  rw [hf, show pA0.fF = payM 0 0 from rfl, pars_plain hl (by rw [hi]; decide), hi]
  show _ = _
  kernel_rfl
theorem unitA1 : unitM true 68719476736 LA2 tA1 = (uA1, 68719476736) := by
  have hl : 1 ≤ lenS (payM 0 1) := by rw [pay_len]; decide
  have hi : idxS (payM 0 1) 0 = 0 := by kernel_rfl
  have hf : findP LA2 tA1.fAt = pA1 := by kernel_rfl
  unfold unitM
  simp only
  rw [hf, show pA1.fF = payM 0 1 from rfl, pars_plain hl (by rw [hi]; decide), hi]
  show _ = _
  kernel_rfl

theorem put_taken {c : Tp} {X : Te} {p : Pk} {now : Int} {q : Sq} {at_ : Int} {b : RBf} {o : List Thg} {z : FS × List (List Un)} (h1 : seqM X.ff p.ff = (q, at_, true)) (h2 : putS X.fo ⟨at_, ⟨#[]⟩, now⟩ = (b, o, 0))
    (h3 : framesM c (X.fL ++ [⟨at_, p⟩]) o (fsOf X) = z) : putM c X p now = (srcF (.mk q X.fh b X.fc (X.fL ++ [⟨at_, p⟩]) X.fp X.fm) c z.1, z.2, 0) := by
  unfold putM
  simp only
  rw [h1]
  simp only
  rw [if_neg (by simp), h2]
  simp only
  rw [if_neg (by simp), h3]
theorem put_not {c : Tp} {X : Te} {p : Pk} {now : Int} {q : Sq} {at_ e : Int} {b : RBf} {o : List Thg} (h1 : seqM X.ff p.ff = (q, at_, true)) (h2 : putS X.fo ⟨at_, ⟨#[]⟩, now⟩ = (b, o, e)) (he : e ≠ 0) :
    putM c X p now = (.mk q X.fh b X.fc X.fL (addI .i64 X.fp 1) X.fm, [], e) := by
  unfold putM
  simp only
  rw [h1]
  simp only
  rw [if_neg (by simp), h2]
  simp only
  rw [if_pos he]

theorem put1A : putM cA (ref0 true 10 9 2) pA0 0 = (xA1, [], 0) := by
  have h3 : framesM cA LA1 [tA0] (fsOf (ref0 true 10 9 2)) = (⟨68719476736, [uA0], 0, 0, 0⟩, []) := by
    unfold framesM stepM
    simp only
    rw [show (fsOf (ref0 true 10 9 2)).ck = -1 from rfl, show cA.fu = true from rfl, unitA0]
    show _ = _
    kernel_rfl
  rw [put_taken (q := ⟨true, 1048581, -1, 0, 0⟩) (at_ := 1048581) (b := ⟨10, 9, true, 1048582, [], 0⟩) (o := [tA0]) (by kernel_rfl) (by kernel_rfl) h3]
  show _ = _
  kernel_rfl
theorem put2A : putM cA xA1 pA1 0 = (xA2, [[uA0, uA1]], 0) := by
  have h3 : framesM cA LA2 [tA1] (fsOf xA1) = (⟨68719476736, [], 1, 0, 1⟩, [[uA0, uA1]]) := by
    unfold framesM stepM
    simp only
    rw [show (fsOf xA1).ck = 68719476736 from rfl, show cA.fu = true from rfl, unitA1]
    show _ = _
    kernel_rfl
  rw [put_taken (q := ⟨true, 1048582, -1, 0, 0⟩) (at_ := 1048582) (b := ⟨10, 9, true, 1048583, [], 0⟩) (o := [tA1]) (by kernel_rfl) (by kernel_rfl) h3]
  show _ = _
  kernel_rfl
theorem put3A : putM cA xA2 pA0 0 = (xA3, [], 13) := by
  rw [put_not (q := ⟨true, 1048582, -1, 0, 0⟩) (at_ := 1048581) (b := ⟨10, 9, true, 1048583, [], 0⟩) (o := []) (e := 13) (by kernel_rfl) (by kernel_rfl) (by decide)]
  kernel_rfl

theorem awake_ok11 : gai = some true := by
  unfold gai
  have hc : gU true 9 9 9 = some (cfgM true 10 9 2) := by
    unfold gU
    rw [Le (show NonZ 40 by decide)]
    kernel_rfl
  have hs : streamL 5 [1] 57 0 [] = [pA0, pA1] := by kernel_rfl
  have c0 : SOk (ref0 true 10 9 2) cA 2000000 0 := ok0 (by decide) (by decide) (by decide) (by decide)
  obtain ⟨s1, o1, r1⟩ := oput_src (rel0 true 10 9 2) c0 (p := pA0) (pkt_ok _ _ _ _ _) (now := 0) (by decide) (by decide) (by decide) (by decide)
  have c1 := put_sok c0 (p := pA0) (pkt_ok _ _ _ _ _) (now := 0) (by decide) (by decide) (by decide) (by decide)
  rw [show (⟨true, 400, 2, 9⟩ : Tp) = cA from rfl, put1A] at o1 r1
  rw [put1A] at c1
  obtain ⟨s2, o2, r2⟩ := oput_src r1 c1 (p := pA1) (pkt_ok _ _ _ _ _) (now := 0) (by decide) (by decide) (by decide) (by decide)
  have c2 := put_sok c1 (p := pA1) (pkt_ok _ _ _ _ _) (now := 0) (by decide) (by decide) (by decide) (by decide)
  rw [put2A] at o2 r2 c2
  obtain ⟨s3, o3, r3⟩ := oput_src r2 c2 (p := pA0) (pkt_ok _ _ _ _ _) (now := 0) (by decide) (by decide) (by decide) (by decide)
  rw [put3A] at o3 r3
  have hb : s3.fp = 1 := r3.bad
  have n0 : nthI [pA0, pA1] 0 = pA0 := rfl
  have n1 : nthI [pA0, pA1] 1 = pA1 := rfl
  have l2 : lenL [pA0, pA1] = 2 := rfl
  have x0 : pickB (pickB (neI 0 0) true false) true false = false := rfl
  rw [hc, Lb, new_src (by decide) (by decide) (by decide) (by decide) (by decide) (by decide), Lb]
  dsimp only
  rw [optC_some, x0, cond_false, stream_eq, hs, Lb, l2, n0, n1, Le (show InB 0 2 by decide), o1, Lb]
  dsimp only
  rw [Le (show InB 1 2 by decide), o2, Lb]
  dsimp only
  rw [Le (show InB 0 2 by decide), o3, Lb]
  dsimp only
  have hk : gG ⟨[uA0, uA1]⟩ = some true := by rw [key_of]; rfl
  have hbad : gA s3 = some 1 := by unfold gA; rw [hb]
  have f1 : ([[uA0, uA1]].map Tl.mk) = [⟨[uA0, uA1]⟩] := rfl
  have f0 : (([] : List (List Un)).map Tl.mk) = [] := rfl
  have m1 : lenL [(⟨[uA0, uA1]⟩ : Tl)] = 1 := rfl
  have m0 : nthI [(⟨[uA0, uA1]⟩ : Tl)] 0 = ⟨[uA0, uA1]⟩ := rfl
  rw [f1, f0, m1, m0, hk, hbad]
  simp only [Option.isSome_some, under_true, need_true, getD_so]
  rw [Le (under_of (show InB 0 1 by decide)), Le (under_of (show InB 0 1 by decide))]
  rfl

end Go.Proofs
end

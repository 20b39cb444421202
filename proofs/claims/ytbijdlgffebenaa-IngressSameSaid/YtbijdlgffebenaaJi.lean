/- The stream of packets; the beginning; the answers that the document fixes. No condition. -/
import Derived.Test.YtbijdlgffebenaaM03
import Derived.KernelRfl
namespace Go.Proofs
open Go.Ab

theorem text_plain (b : Bool) : gVp8DescText (Antiphonref04Desc.mk false b 0 (-1) false (-1) (-1) false (-1)) = some ⟨#[bif b then 16 else 0]⟩ := by
  unfold gVp8DescText
  have e1 : gVp8DescMore (Antiphonref04Desc.mk false b 0 (-1) false (-1) (-1) false (-1)) = some false := rfl
  rw [e1]
  cases b
  · simp only [bind_so, gVp8Bit, cond_true, cond_false, notB_t']
    rw [need_t (by decide), need_t (by decide)]
    rfl
  · simp only [bind_so, gVp8Bit, cond_true, cond_false, notB_t']
    rw [need_t (by decide), need_t (by decide)]
    rfl

/-- Packet k of picture i, of n packets; packet j of all. -/
def payM (i k : Int) : ByteArray := catS ⟨#[bif eqI k 0 then 16 else 0]⟩ (strOfNums [if i % 3 = 0 then 0 else 1, cvtI .u8 i, cvtI .u8 k])
def pktM (first i k n j : Int) : Pk := .mk (eqI k (n - 1)) 96 (addI .u16 first (cvtI .u16 j)) (cvtI .u32 (mulI .i64 3000 i)) 7 [] false 0 ⟨#[]⟩ (payM i k) 0
theorem pay_size (i k : Int) : (payM i k).size = 4 := by
  unfold payM catS
  rw [ByteArray.size_append]
  cases eqI k 0 <;> rfl
theorem pay_len (i k : Int) : lenS (payM i k) = 4 := by
  show ((payM i k).size : Int) = 4
  rw [pay_size]; rfl
theorem pkt_ok (first i k n j : Int) : POk (pktM first i k n j) := by
  refine ⟨?_, ?_, ?_, ?_, ?_⟩
  · show 0 ≤ IntKind.u16.wrap _
    rw [wrapU16]; omega
  · show IntKind.u16.wrap _ < _
    rw [wrapU16]; omega
  · show 0 ≤ IntKind.u32.wrap _
    rw [wrapU32]; omega
  · show IntKind.u32.wrap _ < _
    rw [wrapU32]; omega
  · show lenS (payM i k) ≤ 40
    rw [pay_len]; decide

def pictL (first i n : Int) : Nat → Int → List Pk → List Pk
  | 0, _, acc => acc
  | f + 1, k, acc => if k < n then pictL first i n f (k + 1) (acc ++ [pktM first i k n (lenL acc)]) else acc
def streamL (first : Int) (cuts : List Int) : Nat → Int → List Pk → List Pk
  | 0, _, acc => acc
  | f + 1, i, acc => if i < lenL cuts ∧ lenL acc < 56 then streamL first cuts f (i + 1) (pictL first i (1 + nthI cuts i % 4) 4 0 acc) else acc

theorem pict_len {first i n : Int} : ∀ (f : Nat) (k : Int) (acc : List Pk), acc.length ≤ (pictL first i n f k acc).length ∧ (pictL first i n f k acc).length ≤ acc.length + f
  | 0, _, acc => ⟨Nat.le_refl _, Nat.le_refl _⟩
  | f + 1, k, acc => by
    unfold pictL
    split
    · have := pict_len (first := first) (i := i) (n := n) f (k + 1) (acc ++ [pktM first i k n (lenL acc)])
      simp only [List.length_append, List.length_cons, List.length_nil] at this
      omega
    · omega
theorem pict_one {first i n : Int} (hn : 1 ≤ n) (acc : List Pk) : acc.length + 1 ≤ (pictL first i n 4 0 acc).length := by
  unfold pictL
  rw [if_pos (by omega)]
  have := (pict_len (first := first) (i := i) (n := n) 3 (0 + 1) (acc ++ [pktM first i 0 n (lenL acc)])).1
  simp only [List.length_append, List.length_cons, List.length_nil] at this
  omega
theorem pict_ok {first i n : Int} : ∀ (f : Nat) (k : Int) (acc : List Pk), (∀ p ∈ acc, POk p) → ∀ p ∈ pictL first i n f k acc, POk p
  | 0, _, _, h => h
  | f + 1, k, acc, h => by
    unfold pictL
    split
    · refine pict_ok f _ _ fun p hp => ?_
      rcases List.mem_append.1 hp with hp | hp
      · exact h p hp
      · rw [List.mem_singleton.1 hp]; exact pkt_ok _ _ _ _ _
    · exact h
theorem stream_ok {first : Int} {cuts : List Int} : ∀ (f : Nat) (i : Int) (acc : List Pk), (∀ p ∈ acc, POk p) → acc.length ≤ 60 → (∀ p ∈ streamL first cuts f i acc, POk p) ∧ (streamL first cuts f i acc).length ≤ 60
  | 0, _, _, h, hl => ⟨h, hl⟩
  | f + 1, i, acc, h, hl => by
    unfold streamL
    split
    · rename_i hc
      have h56 := hc.2
      rw [lenL_def] at h56
      refine stream_ok f _ _ (pict_ok _ _ _ h) ?_
      have := (pict_len (first := first) (i := i) (n := 1 + nthI cuts i % 4) 4 0 acc).2
      omega
    · exact ⟨h, hl⟩

theorem and3 (a : Int) : bitsOp .and .i64 a 3 = a % 4 := and_mask' (j := 2) (by omega) a 3 rfl
theorem rem3 {i : Int} (h : 0 ≤ i) : eqI (remI i 3) 0 = decide (i % 3 = 0) := by
  rw [eqI_d]; unfold remI
  rw [Int.tmod_eq_emod_of_nonneg h]

theorem pict_loop (first : Int) (cuts : List Int) (i : Int) (l0 : List Pk) (hi0 : 0 ≤ i) : ∀ (f : Nat) (k : Int) (acc : List Pk), 0 ≤ k → (1 + nthI cuts i % 4) - k ≤ f → acc.length + f ≤ 1000 →
    loopF (gLaw11Stream.loop2 first cuts (i, l0)) (k, acc) = some (.go (pictL first i (1 + nthI cuts i % 4) f k acc)) := by
  have hn : addI .i64 1 (bitsOp .and .i64 (nthI cuts i) 3) = 1 + nthI cuts i % 4 := by rw [and3, addI_n (by omega) (by omega)]
  have stop : ∀ (k : Int) (acc : List Pk), ¬ k < 1 + nthI cuts i % 4 → gLaw11Stream.loop2 first cuts (i, l0) (k, acc) = some (.out (.go acc)) := fun k acc hk => by
    unfold gLaw11Stream.loop2
    simp only
    rw [hn, ltI_d, decide_eq_false hk, cond_false]
  intro f
  induction f with
  | zero =>
    intro k acc hk hf _
    rw [loopF_eq, stop k acc (by omega)]; rfl
  | succ f ih =>
    intro k acc hk hf hl
    unfold pictL
    by_cases hlt : k < 1 + nthI cuts i % 4
    · rw [if_pos hlt]
      have : gLaw11Stream.loop2 first cuts (i, l0) (k, acc) = some (.go (k + 1, acc ++ [pktM first i k (1 + nthI cuts i % 4) (lenL acc)])) := by
        unfold gLaw11Stream.loop2
        simp only
        rw [hn, ltI_d, decide_eq_true hlt, cond_true]
        unfold gVp8Plain
        rw [bind_so, need_t (show NonZ 3 by decide), rem3 hi0]
        have hs : subI .i64 (1 + nthI cuts i % 4) 1 = (1 + nthI cuts i % 4) - 1 := subI_n (by omega) (by omega)
        have hb : (bif decide (i % 3 = 0) then (some (.go 0) : Option (Fl Int (Fl (Int × List Pk) (Fl (List Pk) (Fl (Int × List Pk) (Fl (List Pk) (List Pk))))))) else some (.go 1)) = some (.go (if i % 3 = 0 then 0 else 1)) := by
          by_cases h3 : i % 3 = 0
          · rw [decide_eq_true h3, if_pos h3]; rfl
          · rw [decide_eq_false h3, if_neg h3]; rfl
        rw [hb, bind_so, flC_go]
        simp only
        rw [text_plain, bind_so, need_t (show CatB _ _ from by show (1 + 3 : Nat) ≤ 9223372036854775807; decide), need_t (show AppB (lenL acc) 1 88 from ⟨by rw [lenL_def]; omega, by rw [lenL_def]; omega⟩), addI_n (by omega) (by omega), hs]
        rfl
      rw [loopF_eq, this]
      exact ih (k + 1) _ (by omega) (by omega) (by simp; omega)
    · rw [if_neg hlt, loopF_eq, stop k acc hlt]

theorem stream_loop (first : Int) (cuts : List Int) : ∀ (f : Nat) (i : Nat) (acc : List Pk), acc.length ≤ 60 → 57 ≤ f + acc.length → i ≤ 1000 →  i + f ≤ 1000 →
    loopF (gLaw11Stream.loop1 first cuts) ((i : Int), acc) = some (.go (streamL first cuts f i acc)) := by
  have stop : ∀ (i : Nat) (acc : List Pk), ¬ ((i : Int) < lenL cuts ∧ lenL acc < 56) → gLaw11Stream.loop1 first cuts ((i : Int), acc) = some (.out (.go acc)) := fun i acc h => by
    unfold gLaw11Stream.loop1
    simp only
    rw [ltI_d, ltI_d, pickB_and, ← Bool.decide_and, decide_eq_false h, cond_false]
  intro f
  induction f with
  | zero =>
    intro i acc hl hf _ _
    rw [loopF_eq, stop i acc (fun h => by have := h.2; rw [lenL_def] at this; omega)]; rfl
  | succ f ih =>
    intro i acc hl hf hi hif
    unfold streamL
    by_cases hc : (i : Int) < lenL cuts ∧ lenL acc < 56
    · rw [if_pos hc]
      have h56 := hc.2
      rw [lenL_def] at h56
      have : gLaw11Stream.loop1 first cuts ((i : Int), acc) = some (.go (((i + 1 : Nat) : Int), pictL first i (1 + nthI cuts i % 4) 4 0 acc)) := by
        unfold gLaw11Stream.loop1
        simp only
        rw [ltI_d, ltI_d, pickB_and, ← Bool.decide_and, decide_eq_true hc, cond_true, need_t ⟨by omega, hc.1⟩, pict_loop first cuts i acc (by omega) 4 0 acc (by omega) (by omega) (by omega), bind_so, flC_go, addI_n (by omega) (by omega)]
        rfl
      have p1 := pict_one (first := first) (i := (i : Int)) (n := 1 + nthI cuts i % 4) (by omega) acc
      have p2 := (pict_len (first := first) (i := (i : Int)) (n := 1 + nthI cuts i % 4) 4 0 acc).2
      rw [loopF_eq, this]
      exact ih (i + 1) _ (by omega) (by omega) (by omega) (by omega)
    · rw [if_neg hc, loopF_eq, stop i acc hc]
theorem stream_eq (first : Int) (cuts : List Int) : gLaw11Stream first cuts = some (streamL first cuts 57 0 []) := by
  unfold gLaw11Stream
  have := stream_loop first cuts 57 0 [] (by simp) (by simp) (by omega) (by omega)
  have h0 : ((0 : Nat) : Int) = 0 := rfl
  rw [h0] at this
  rw [this]; rfl

/-! ### The beginning -/
def cfgM (video : Bool) (most wait units : Int) : IngressConfig := .mk ⟨most, wait⟩ ⟨video, 400, units, wait⟩
def src0 (video : Bool) (most wait units : Int) : IngressSource := .mk (.mk ⟨most, wait⟩ false 0 [] 0) (.mk ⟨video, 400, units, wait⟩ ⟨[]⟩ 0 0) ⟨false, 0, 0, 0, 0⟩ ⟨false, 0⟩ [] 0 0
def ref0 (video : Bool) (most wait units : Int) : Antiphonref11Source := .mk ⟨false, 0, -1, 0, 0⟩ (-1) ⟨most, wait, false, 0, [], 0⟩ (.mk video 400 units wait [] 0 0) [] 0 0
theorem new_src {video : Bool} {most wait units : Int} (h0 : 1 ≤ most) (h1 : most ≤ 1024) (h2 : 0 ≤ wait) (h3 : wait ≤ 1099511627776) (h4 : 1 ≤ units) (h5 : units ≤ 8) :
    gIngressNew (cfgM video most wait units) = some (some (src0 video most wait units), 0) := by
  unfold gIngressNew cfgM
  simp only
  rw [new_ok h0 h1 h2 h3, bind_so]
  simp only
  rw [optC_some, show neI 0 0 = false from rfl, cond_false, frame_new _ ⟨by show (1 : Int) ≤ 400; decide, by show (400 : Int) ≤ 1048576; decide, h4, by simp only; omega, h2, h3⟩, bind_so]
  simp only
  rw [optC_some, show neI 0 0 = false from rfl, cond_false]
  rfl
theorem rel0 (video : Bool) (most wait units : Int) : SRel (src0 video most wait units) (ref0 video most wait units) ⟨video, 400, units, wait⟩ :=
  ⟨newS_rel most wait, rfl, ⟨rfl, rfl, rfl, rfl, fun h => by cases h⟩, ⟨rfl, fun h => by cases h⟩, List.Perm.refl _, rfl, rfl⟩
theorem ok0 {video : Bool} {most wait units : Int} (h0 : 1 ≤ most) (h1 : most ≤ 1024) (h4 : 1 ≤ units) (h5 : units ≤ 8) : SOk (ref0 video most wait units) ⟨video, 400, units, wait⟩ 2000000 0 :=
  ⟨⟨fun h => (by cases h), fun _ => rfl, .inl ⟨rfl, rfl⟩⟩, newS_inv h0 h1, rfl, held_nil h4 h5, fun _ h => (by cases h), Nat.le_refl _, fun _ h => (by cases h)⟩
theorem begin_eq {video : Bool} {most wait units : Int} (h0 : 1 ≤ most) (h1 : most ≤ 1024) (h2 : 0 ≤ wait) (h3 : wait ≤ 1099511627776) (h4 : 1 ≤ units) (h5 : units ≤ 8) :
    gLaw11Begin (cfgM video most wait units) = some (some (src0 video most wait units), ref0 video most wait units, true) := by
  unfold gLaw11Begin
  rw [new_src h0 h1 h2 h3 h4 h5, bind_so]
  rfl

/-! ### The answers that the document fixes -/
theorem pars_plain {s : ByteArray} (hl : 1 ≤ lenS s) (ha : idxS s 0 ≤ 127) :
    parsP s = (Antiphonref04Desc.mk (ltI 0 (bitsOp .and .u8 (idxS s 0) 32)) (ltI 0 (bitsOp .and .u8 (idxS s 0) 16)) (cvtI .i64 (bitsOp .and .u8 (idxS s 0) 7)) (-1) false (-1) (-1) false (-1), cutS s 1 (lenS s), 0) := by
  have h := rparse s
  have hu : u8P s 0 = (idxS s 0, cutS s 1 (lenS s), 0) := by
    unfold u8P
    rw [if_neg (by simp), if_neg (by omega)]
  have a32 := pA32 s 0
  have a16 := pA16 s 0
  have a8 := pA8 s 0
  rw [hu] at a32 a16 a8
  simp only at a32 a16 a8
  unfold gRef04Parse at h
  rw [rtake, hu, bind_so] at h
  simp only at h
  rw [need_t (nz (show (32 : Int) ≠ 0 by decide)), need_t (nz (show (2 : Int) ≠ 0 by decide)), need_t (nz (show (16 : Int) ≠ 0 by decide)), need_t (nz (show (2 : Int) ≠ 0 by decide)), need_t (nz (show (8 : Int) ≠ 0 by decide)), a32, a16, a8,
    ltI_f (show ¬ 127 < idxS s 0 by omega), cond_false, bind_so, flC_go] at h
  unfold gRef04Last gRef04Numbers at h
  simp only [need_t (nz (show (128 : Int) ≠ 0 by decide)), need_t (nz (show (64 : Int) ≠ 0 by decide)), need_t (nz (show (2 : Int) ≠ 0 by decide)), need_t (nz (show (16 : Int) ≠ 0 by decide)), need_t (nz (show (4 : Int) ≠ 0 by decide)), y128, y64, y48, cond_false, bind_so, flC_go] at h
  exact (Option.some.inj h).symm
end Go.Proofs

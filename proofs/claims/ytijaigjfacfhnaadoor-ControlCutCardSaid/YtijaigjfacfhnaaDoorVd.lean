/- Both readers of a command are one program. No condition. -/
import Derived.Test.YtijaigjfacfhnaaDoorVc
import Derived.Test.YtijaigjfacfhnaaDoorM06
import Derived.Test.YtijaigjfacfhnaaDoorM03
namespace Go.Proofs
open Go.Ab
abbrev Cmd := Antiphonref07Command

/-! ### What a program's parts do -/
def tstp (l : List UInt8) (e : Int) : Bool × List UInt8 × Int :=
  if 1 < val (stp 1 l e).1 then (false, flt 2 (stp 1 l e).2.1 (stp 1 l e).2.2) else (decide (val (stp 1 l e).1 = 1), (stp 1 l e).2)
def mstp : Nat → List Int → List UInt8 → Int → List Int × List UInt8 × Int
  | 0, acc, l, e => (acc, l, e)
  | m + 1, acc, l, e => mstp m (acc ++ [val (stp 4 l e).1]) (stp 4 l e).2.1 (stp 4 l e).2.2
theorem run_ret {α : Type} {a : α} {l : List UInt8} {e : Int} : (Rd.ret a).run l e = (a, l, e) := rfl
theorem run_rd {α : Type} {n : Nat} {k : List UInt8 → Rd α} {l : List UInt8} {e : Int} : (Rd.rd n k).run l e = (k (stp n l e).1).run (stp n l e).2.1 (stp n l e).2.2 := rfl
theorem run_num {α : Type} {n : Nat} {k : Int → Rd α} {l : List UInt8} {e : Int} : (num n k).run l e = (k (val (stp n l e).1)).run (stp n l e).2.1 (stp n l e).2.2 := rfl
theorem run_tru {α : Type} {k : Bool → Rd α} {l : List UInt8} {e : Int} : (tru k).run l e = (k (tstp l e).1).run (tstp l e).2.1 (tstp l e).2.2 := by
  unfold tru tstp
  rw [run_rd]
  split
  · rfl
  · rfl
theorem run_many {α : Type} : ∀ {m : Nat} {acc : List Int} {k : List Int → Rd α} {l : List UInt8} {e : Int}, (many m acc k).run l e = (k (mstp m acc l e).1).run (mstp m acc l e).2.1 (mstp m acc l e).2.2
  | 0, _, _, _, _ => rfl
  | m + 1, acc, k, l, e => by
    rw [many, run_num, run_many]
    rfl

/-- The part behind a letter. -/
def tkK {α : Type} (c : Cmd) (x : Int) (k : Cmd → Rd α) : Rd α :=
  if x = 114 then num 1 fun a => .rd a.toNat fun r => num 1 fun b => .rd b.toNat fun n => k (.mk c.fKind (ofB r) (ofB n) c.fPeer c.fOf c.fTrack c.fLayer c.fOn c.fVideo c.fSsrcs)
  else if x = 112 then num 2 fun a => k (.mk c.fKind c.fRoom c.fName a c.fOf c.fTrack c.fLayer c.fOn c.fVideo c.fSsrcs)
  else if x = 111 then num 2 fun a => k (.mk c.fKind c.fRoom c.fName c.fPeer a c.fTrack c.fLayer c.fOn c.fVideo c.fSsrcs)
  else if x = 116 then num 1 fun a => k (.mk c.fKind c.fRoom c.fName c.fPeer c.fOf a c.fLayer c.fOn c.fVideo c.fSsrcs)
  else if x = 108 then num 1 fun a => k (.mk c.fKind c.fRoom c.fName c.fPeer c.fOf c.fTrack a c.fOn c.fVideo c.fSsrcs)
  else if x = 98 then tru fun a => k (.mk c.fKind c.fRoom c.fName c.fPeer c.fOf c.fTrack c.fLayer a c.fVideo c.fSsrcs)
  else if x = 115 then tru fun a => num 1 fun m => many m.toNat c.fSsrcs fun ss => k (.mk c.fKind c.fRoom c.fName c.fPeer c.fOf c.fTrack c.fLayer c.fOn a ss)
  else k c
def partsP : List Int → Cmd → Rd Cmd
  | [], c => .ret c
  | x :: xs, c => tkK c x (partsP xs)
def newC (k : Int) : Cmd := .mk k noS noS 0 0 0 0 false false []
def prog (k : Int) : Rd Cmd := partsP (runesL (hasL k)) (newC k)

/-! ### The program's reader -/
theorem cvt64 {x : Int} (h0 : 0 ≤ x) (h1 : x < 9223372036854775808) : cvtI .i64 x = x := by
  unfold cvtI
  rw [IntKind.wrap_i64]
  omega
theorem v1 (l : List UInt8) (e : Int) : 0 ≤ val (stp 1 l e).1 ∧ val (stp 1 l e).1 < 256 := stp_rng 1 l e
theorem v2 (l : List UInt8) (e : Int) : 0 ≤ val (stp 2 l e).1 ∧ val (stp 2 l e).1 < 65536 := stp_rng 2 l e
theorem v4 (l : List UInt8) (e : Int) : 0 ≤ val (stp 4 l e).1 ∧ val (stp 4 l e).1 < 4294967296 := stp_rng 4 l e
theorem c1 (l : List UInt8) (e : Int) : cvtI .i64 (val (stp 1 l e).1) = val (stp 1 l e).1 := cvt64 (v1 l e).1 (by have := (v1 l e).2; omega)
theorem c2 (l : List UInt8) (e : Int) : cvtI .i64 (val (stp 2 l e).1) = val (stp 2 l e).1 := cvt64 (v2 l e).1 (by have := (v2 l e).2; omega)
theorem c4 (l : List UInt8) (e : Int) : cvtI .u32 (val (stp 4 l e).1) = val (stp 4 l e).1 := by
  unfold cvtI
  rw [IntKind.wrap_u32', Int.emod_eq_of_lt (v4 l e).1 (v4 l e).2]
theorem bytes_i {x : Int} (hx : 0 ≤ x) (l : List UInt8) (e : Int) : gOctetReaderBytes (OctetReader.mk (ofB l) e) x = some (ofB (stp x.toNat l e).1, OctetReader.mk (ofB (stp x.toNat l e).2.1) (stp x.toNat l e).2.2) := by
  have := bytes_d x.toNat l e
  rwa [Int.toNat_of_nonneg hx] at this
theorem rbytes_i {x : Int} (hx : 0 ≤ x) (l : List UInt8) (e : Int) : gRef02Bytes (Antiphonref02Reader.mk (ofB l) e) x = some (Antiphonref02Reader.mk (ofB (stp x.toNat l e).2.1) (stp x.toNat l e).2.2, ofB (stp x.toNat l e).1) := by
  have := rbytes_d x.toNat l e
  rwa [Int.toNat_of_nonneg hx] at this
theorem truth_d (l : List UInt8) (e : Int) : gControlTruth (OctetReader.mk (ofB l) e) = some ((tstp l e).1, OctetReader.mk (ofB (tstp l e).2.1) (tstp l e).2.2) := by
  unfold gControlTruth tstp
  rw [u8_d]
  simp only [bind_so]
  by_cases h : 1 < val (stp 1 l e).1
  · rw [ltI_t h, fail_d _ _ _ (by omega), if_pos h]
    simp only [cond_true, bind_so, flC_go]
    rw [eqI_f (by omega)]
  · rw [ltI_f h, if_neg h, eqI_d]
    rfl
theorem rtruth_d (l : List UInt8) (e : Int) : gRef07Truth (Antiphonref02Reader.mk (ofB l) e) = some (Antiphonref02Reader.mk (ofB (tstp l e).2.1) (tstp l e).2.2, (tstp l e).1) := by
  unfold gRef07Truth tstp
  rw [show (1 : Int) = ((1 : Nat) : Int) from rfl, take_d (by omega) (by omega)]
  simp only [bind_so]
  by_cases h : 1 < val (stp 1 l e).1
  · rw [ltI_t (by simpa using h), rfail_d _ _ _ (by omega), if_pos (by simpa using h)]
    rfl
  · rw [ltI_f (by simpa using h), if_neg (by simpa using h), eqI_d]
    rfl
theorem mloop (r11 : Int × OctetReader) (h : r11.1 < 256) : ∀ (m : Nat) (i : Int) (acc : List Int) (l : List UInt8) (e : Int), i + m = r11.1 → 0 ≤ i → lenL acc ≤ i →
    loopF (gControlCommandTake.loop1 r11) (i, acc, OctetReader.mk (ofB l) e) = some (.go ((mstp m acc l e).1, OctetReader.mk (ofB (mstp m acc l e).2.1) (mstp m acc l e).2.2))
  | 0, i, acc, l, e, h1, h2, h3 => by
    rw [loopF_eq]
    simp only [gControlCommandTake.loop1]
    rw [ltI_f (by omega)]
    rfl
  | m + 1, i, acc, l, e, h1, h2, h3 => by
    rw [loopF_eq]
    simp only [gControlCommandTake.loop1]
    rw [ltI_t (by omega), u32_d]
    simp only [cond_true, bind_so]
    rw [need_t (show AppB _ _ _ from ⟨by omega, by omega⟩)]
    have ha : addI .u8 i 1 = i + 1 := by
      unfold addI
      rw [IntKind.wrap_u8', Int.emod_eq_of_lt (by omega) (by omega)]
    rw [ha]
    exact mloop r11 h m (i + 1) _ _ _ (by omega) (by omega) (by
      unfold lenL at h3 ⊢
      unfold appL
      rw [List.length_append]
      simp
      omega)
theorem rmloop (r4 : Antiphonref02Reader × Int) (h0 : 0 ≤ r4.2) (h : r4.2 < 256) : ∀ (m : Nat) (i : Int) (acc : List Int) (l : List UInt8) (e : Int), i + m = r4.2 → 0 ≤ i → lenL acc ≤ i →
    loopF (gRef07Last.loop4 r4) (i, acc, Antiphonref02Reader.mk (ofB l) e) = some (.go ((mstp m acc l e).1, Antiphonref02Reader.mk (ofB (mstp m acc l e).2.1) (mstp m acc l e).2.2))
  | 0, i, acc, l, e, h1, h2, h3 => by
    rw [loopF_eq]
    simp only [gRef07Last.loop4]
    rw [cvt64 h0 (by omega), ltI_f (by omega)]
    rfl
  | m + 1, i, acc, l, e, h1, h2, h3 => by
    rw [loopF_eq]
    have ht := take_d (n := 4) (by omega) (by omega) l e
    rw [show ((4 : Nat) : Int) = 4 from rfl] at ht
    simp only [gRef07Last.loop4]
    rw [cvt64 h0 (by omega), ltI_t (by omega), ht]
    simp only [cond_true, bind_so]
    rw [need_t (show AppB _ _ _ from ⟨by omega, by omega⟩), addI_n (by omega) (by omega), c4]
    exact rmloop r4 h0 h m (i + 1) _ _ _ (by omega) (by omega) (by
      unfold lenL at h3 ⊢
      unfold appL
      rw [List.length_append]
      simp
      omega)
theorem take_t (c : Cmd) (f : Bool) (l : List UInt8) (e : Int) (x : Int) (hx : x = 115 → f = true ∧ c.fSsrcs = []) (k : Cmd → Rd Cmd) :
    ∃ c' l' e', gControlCommandTake c f (OctetReader.mk (ofB l) e) x = some (c', (if x = 115 then false else f), OctetReader.mk (ofB l') e') ∧ (tkK c x k).run l e = (k c').run l' e' ∧ (x ≠ 115 → c'.fSsrcs = c.fSsrcs) := by
  obtain ⟨kd, room, name, p, o, t, ly, on, v, ss⟩ := c
  unfold gControlCommandTake tkK
  simp only [eqI_d]
  by_cases h1 : x = 114
  · subst h1
    simp only [decide_true, cond_true, u8_d, bind_so, c1, bytes_i (v1 _ _).1]
    exact ⟨_, _, _, rfl, rfl, fun _ => rfl⟩
  by_cases h2 : x = 112
  · subst h2
    simp only [decide_true, cond_true, u16_d, bind_so, c2]
    exact ⟨_, _, _, rfl, rfl, fun _ => rfl⟩
  by_cases h3 : x = 111
  · subst h3
    simp only [decide_true, cond_true, u16_d, bind_so, c2]
    exact ⟨_, _, _, rfl, rfl, fun _ => rfl⟩
  by_cases h4 : x = 116
  · subst h4
    simp only [decide_true, cond_true, u8_d, bind_so, c1]
    exact ⟨_, _, _, rfl, rfl, fun _ => rfl⟩
  by_cases h5 : x = 108
  · subst h5
    simp only [decide_true, cond_true, u8_d, bind_so, c1]
    exact ⟨_, _, _, rfl, rfl, fun _ => rfl⟩
  by_cases h6 : x = 98
  · subst h6
    simp only [decide_true, cond_true, truth_d, bind_so]
    exact ⟨_, _, _, rfl, by simp only [Int.reduceEq, if_false, if_true]; rw [run_tru], fun _ => rfl⟩
  by_cases h7 : x = 115
  · subst h7
    obtain ⟨rfl, hs⟩ := hx rfl
    simp only at hs
    subst hs
    simp only [decide_true, cond_true, truth_d, u8_d, bind_so]
    rw [need_t trivial, mloop _ (v1 _ _).2 (val (stp 1 (tstp l e).2.1 (tstp l e).2.2).1).toNat 0 [] _ _ (by have := (v1 (tstp l e).2.1 (tstp l e).2.2).1; omega) (by omega) (by unfold lenL; simp)]
    refine ⟨_, _, _, rfl, ?_, fun h => absurd rfl h⟩
    simp only [Int.reduceEq, if_false, if_true]
    rw [run_tru, run_num, run_many]
  · simp only [h1, h2, h3, h4, h5, h6, h7, decide_false, cond_false, if_false]
    exact ⟨_, _, _, rfl, rfl, fun _ => rfl⟩

theorem parts_loop (r : ByteArray) : ∀ (xs : List Int) (pos : Nat) (c : Cmd) (f : Bool) (l : List UInt8) (e : Int), scan r pos = xs → ((f = true ∧ c.fSsrcs = [] ∧ xs.Nodup) ∨ 115 ∉ xs) →
    ∃ f', loopF (gControlParse.loop2 r) (OctetReader.mk (ofB l) e, c.fKind, c.fRoom, c.fName, c.fPeer, c.fOf, c.fTrack, c.fLayer, c.fOn, c.fVideo, f, c.fSsrcs, pos) =
      some (.go (OctetReader.mk (ofB ((partsP xs c).run l e).2.1) ((partsP xs c).run l e).2.2, ((partsP xs c).run l e).1.fKind, ((partsP xs c).run l e).1.fRoom, ((partsP xs c).run l e).1.fName, ((partsP xs c).run l e).1.fPeer, ((partsP xs c).run l e).1.fOf, ((partsP xs c).run l e).1.fTrack, ((partsP xs c).run l e).1.fLayer, ((partsP xs c).run l e).1.fOn, ((partsP xs c).run l e).1.fVideo, f', ((partsP xs c).run l e).1.fSsrcs)) := by
  intro xs
  induction xs with
  | nil =>
    intro pos c f l e hs hx
    have h : restS r pos = [] := by
      by_cases h : restS r pos = []
      · exact h
      · rw [scan_t h] at hs; cases hs
    rw [loopF_eq]
    simp only [gControlParse.loop2, nextB_f h]
    exact ⟨f, rfl⟩
  | cons x xs ih =>
    intro pos c f l e hs hx
    have h : restS r pos ≠ [] := fun h => by rw [scan_f h] at hs; cases hs
    rw [scan_t h] at hs
    obtain ⟨hr, hs2⟩ := List.cons.inj hs
    subst hr
    have hc : Antiphonref07Command.mk c.fKind c.fRoom c.fName c.fPeer c.fOf c.fTrack c.fLayer c.fOn c.fVideo c.fSsrcs = c := rfl
    obtain ⟨c', l', e', h1, h2, h3⟩ := take_t c f l e (runeS r pos) (fun q => by
      rcases hx with hx | hx
      · exact ⟨hx.1, hx.2.1⟩
      · rw [q] at hx; simp at hx) (partsP xs)
    rw [loopF_eq]
    simp only [gControlParse.loop2, nextB_t h, cond_true, hc, h1, bind_so, partsP, h2]
    refine ih (stepS r pos) c' _ l' e' hs2 ?_
    by_cases q : runeS r pos = 115
    · right
      rcases hx with hx | hx
      · rw [q] at hx
        exact (List.nodup_cons.1 hx.2.2).1
      · rw [q] at hx; simp at hx
    · rw [if_neg q, h3 q]
      rcases hx with hx | hx
      · exact .inl ⟨hx.1, hx.2.1, (List.nodup_cons.1 hx.2.2).2⟩
      · exact .inr fun m => hx (List.mem_cons_of_mem _ m)

/-! ### The document's reader -/
theorem rt1 (l : List UInt8) (e : Int) : gRef02Take (Antiphonref02Reader.mk (ofB l) e) 1 = some (Antiphonref02Reader.mk (ofB (stp 1 l e).2.1) (stp 1 l e).2.2, val (stp 1 l e).1) := take_d (n := 1) (by omega) (by omega) l e
theorem rt2 (l : List UInt8) (e : Int) : gRef02Take (Antiphonref02Reader.mk (ofB l) e) 2 = some (Antiphonref02Reader.mk (ofB (stp 2 l e).2.1) (stp 2 l e).2.2, val (stp 2 l e).1) := take_d (n := 2) (by omega) (by omega) l e
theorem kinds {k : Int} (h : 1 ≤ k ∧ k ≤ 8) : k = 1 ∨ k = 2 ∨ k = 3 ∨ k = 4 ∨ k = 5 ∨ k = 6 ∨ k = 7 ∨ k = 8 := by omega
theorem rparts_d {k : Int} (hk : 1 ≤ k ∧ k ≤ 8) (l : List UInt8) (e : Int) : gRef07Parts (Antiphonref02Reader.mk (ofB l) e) (newC k) true = some (Antiphonref02Reader.mk (ofB ((prog k).run l e).2.1) ((prog k).run l e).2.2, ((prog k).run l e).1) := by
  have hm : ∀ (a : Antiphonref02Reader) (l : List UInt8) (e : Int), loopF (gRef07Last.loop4 (a, val (stp 1 l e).1)) (0, [], Antiphonref02Reader.mk (ofB (stp 1 l e).2.1) (stp 1 l e).2.2) = some (.go ((mstp (val (stp 1 l e).1).toNat [] (stp 1 l e).2.1 (stp 1 l e).2.2).1, Antiphonref02Reader.mk (ofB (mstp (val (stp 1 l e).1).toNat [] (stp 1 l e).2.1 (stp 1 l e).2.2).2.1) (mstp (val (stp 1 l e).1).toNat [] (stp 1 l e).2.1 (stp 1 l e).2.2).2.2)) := fun a l e =>
    rmloop _ (v1 _ _).1 (v1 _ _).2 (val (stp 1 l e).1).toNat 0 [] _ _ (by have := (v1 l e).1; simp only; omega) (by omega) (by unfold lenL; simp)
  unfold prog gRef07Parts gRef07Names gRef07Last gRef07Of gRef07Track newC
  simp only [rt1, rt2, bind_so, c1, c2, rbytes_i (v1 _ _).1, eqI_d, leI_d, pickB_and, pickB_or]
  rcases kinds hk with h | h | h | h | h | h | h | h <;> subst h <;> simp only [r1, r2, r3, r4, r5, r6, r7, r8] <;>
    simp [partsP, tkK, run_num, run_rd, run_tru, run_many, run_ret, flC, need, rt1, c1, rtruth_d, hm]
end Go.Proofs

/- What both writers write. No condition. -/
import Derived.Test.YtijaigjfacfhnaaDoorVe
import Derived.Test.YtijaigjfacfhnaaDoorM05
namespace Go.Proofs
open Go.Ab

def nums (l : List UInt8) : List Int := l.map fun b => (b.toNat : Int)
theorem nums_app (a b : List UInt8) : nums (a ++ b) = nums a ++ nums b := List.map_append
theorem nums_len (a : List UInt8) : lenL (nums a) = (a.length : Int) := by unfold lenL nums; rw [List.length_map]
theorem str_nums (l : List UInt8) : strOfNums (nums l) = ofB l := bytes_ext (by
  rw [nums_b, ofB_b]
  unfold nums
  rw [List.map_map]
  have : ∀ b : UInt8, ((fun n : Int => n.toNat.toUInt8) ∘ fun b : UInt8 => (b.toNat : Int)) b = b := fun b => by simp
  rw [List.map_congr_left fun b _ => this b, List.map_id'])
theorem numsOf_of (l : List UInt8) : numsOf (ofB l) = nums l := numsOf_ofB l
theorem be_high : ∀ (n : Nat) (x : Int), be (n + 1) x = ((x / 256 ^ n) % 256).toNat.toUInt8 :: be n x
  | 0, x => by simp [be]
  | n + 1, x => by
    rw [be, be_high n (x / 256), be]
    have : x / 256 / 256 ^ n = x / 256 ^ (n + 1) := by
      rw [Int.pow_succ, Int.mul_comm, ← Int.ediv_ediv_of_nonneg (by omega)]
    rw [this]
    rfl

/-! ### The program's writer -/
theorem cvtu8 (x : Int) : cvtI .u8 x = x % 256 := by unfold cvtI; rw [IntKind.wrap_u8']
theorem wnum_loop2 (x : Int) (s1 : Int × List Int) (hs : s1.1 = 0) (h0 : 0 ≤ x) : ∀ (m : Nat) (acc : List UInt8), m ≤ 8 → acc.length + m ≤ 1000000 →
    loopF (gOctetWriterNum.loop2 [x] s1) ((m : Int) - 1, nums acc) = some (.go (nums (acc ++ be m x)))
  | 0, acc, _, _ => by
    rw [loopF_eq]
    simp only [gOctetWriterNum.loop2]
    rw [leI_f (by omega)]
    simp [be]
  | m + 1, acc, hm, ha => by
    rw [loopF_eq]
    simp only [gOctetWriterNum.loop2]
    have e1 : (((m + 1 : Nat) : Int) - 1) = (m : Int) := by omega
    rw [e1, leI_t (by omega), mulI_n (by omega) (by omega), need_t (show NonN _ by unfold NonN; omega), need_t (show AppB _ _ _ from ⟨by rw [nums_len]; omega, by rw [nums_len]; omega⟩), subI_n (by omega) (by omega), hs]
    have e2 : cvtI .u8 (shrI .u64 (nthI [x] 0) (8 * (m : Int))) = (((x / 256 ^ m) % 256).toNat.toUInt8.toNat : Int) := by
      rw [cvtu8, byte_of (by omega) (by omega)]
      unfold shrI
      rw [show nthI [x] 0 = x from rfl]
      have : (2 : Int) ^ (min (8 * (m : Int)).toNat IntKind.u64.bits) = 256 ^ m := by
        have e3 : min (8 * (m : Int)).toNat IntKind.u64.bits = 8 * m := by
          have : IntKind.u64.bits = 64 := rfl
          omega
        rw [e3, Int.pow_mul]
        rfl
      rw [this, Int.fdiv_eq_ediv_of_nonneg _ (by exact Int.pow_nonneg (by omega))]
    rw [e2]
    simp only [cond_true]
    have e4 : appL (nums acc) [(((x / 256 ^ m) % 256).toNat.toUInt8.toNat : Int)] = nums (acc ++ [((x / 256 ^ m) % 256).toNat.toUInt8]) := by
      rw [nums_app]; rfl
    rw [e4, wnum_loop2 x s1 hs h0 m _ (by omega) (by simp; omega), be_high]
    simp
theorem wnum_d {n : Nat} (h1 : 1 ≤ n) (h8 : n ≤ 8) {x : Int} (h0 : 0 ≤ x) (acc : List UInt8) (ha : acc.length ≤ 900000) : gOctetWriterNum (nums acc) (n : Int) [x] = some (nums (acc ++ be n x)) := by
  unfold gOctetWriterNum
  have hm : minI (maxI (n : Int) 1) 8 = (n : Int) := by rw [minI_d, maxI_d]; omega
  rw [loopF_eq]
  simp only [gOctetWriterNum.loop1, hm]
  rw [ltI_t (show (0 : Int) < lenL [x] by show (0 : Int) < 1; omega), need_t (show InB 0 (lenL [x]) from ⟨by omega, by show (0 : Int) < 1; omega⟩), subI_n (by omega) (by omega), wnum_loop2 x _ rfl h0 n acc (by omega) (by omega)]
  simp only [cond_true, bind_so, flC_go]
  rw [addI_n (by omega) (by omega), loopF_eq]
  simp only [gOctetWriterNum.loop1]
  rw [ltI_f (show ¬ (0 + 1 : Int) < lenL [x] by show ¬ ((0 : Int) + 1 < 1); omega)]
  rfl
theorem cvtu64 {x : Int} (h0 : 0 ≤ x) (h1 : x < 18446744073709551616) : cvtI .u64 x = x := by unfold cvtI; exact wrapU64 h0 h1
theorem cvtu16 {x : Int} (h0 : 0 ≤ x) (h1 : x < 65536) : cvtI .u16 x = x := by unfold cvtI; rw [IntKind.wrap_u16]; omega
theorem u16w {x : Int} (h0 : 0 ≤ x) (h1 : x < 65536) (acc : List UInt8) (ha : acc.length ≤ 900000) : gOctetWriterU16 (nums acc) [cvtI .u16 x] = some (nums (acc ++ be 2 x)) := by
  rw [cvtu16 h0 h1]
  unfold gOctetWriterU16
  rw [loopF_eq]
  simp only [gOctetWriterU16.loop1]
  have := wnum_d (n := 2) (by omega) (by omega) h0 acc ha
  rw [show ((2 : Nat) : Int) = 2 from rfl] at this
  rw [ltI_t (show (0 : Int) < lenL [x] by show (0 : Int) < 1; omega), need_t (show InB 0 (lenL [x]) from ⟨by omega, by show (0 : Int) < 1; omega⟩), show nthI [x] 0 = x from rfl, cvtu64 h0 (by omega), this]
  simp only [cond_true, bind_so]
  rw [addI_n (by omega) (by omega), loopF_eq]
  simp only [gOctetWriterU16.loop1]
  rw [ltI_f (show ¬ (0 + 1 : Int) < lenL [x] by show ¬ ((0 : Int) + 1 < 1); omega)]
  rfl
theorem be_flat_len (n : Nat) (l : List Int) : (l.flatMap (be n)).length = l.length * n := by
  induction l with
  | nil => simp
  | cons a t ih => rw [List.flatMap_cons, List.length_append, ih, be_len, List.length_cons, Nat.succ_mul]; omega
theorem u32w (ss : List Int) (hs : ∀ x ∈ ss, 0 ≤ x ∧ x < 4294967296) (hl : ss.length < 256) : ∀ (t p : List Int) (acc : List UInt8), ss = p ++ t → acc.length + 4 * t.length ≤ 900000 →
    loopF (gOctetWriterU32.loop1 ss) ((p.length : Int), nums acc) = some (.go (nums (acc ++ t.flatMap (be 4))))
  | [], p, acc, h, ha => by
    rw [loopF_eq]
    simp only [gOctetWriterU32.loop1]
    rw [ltI_f (by unfold lenL; rw [h]; simp)]
    simp
  | x :: t, p, acc, h, ha => by
    have hx := hs x (by rw [h]; simp)
    have hL : ss.length = p.length + (t.length + 1) := by rw [h]; simp
    rw [List.length_cons] at ha
    rw [loopF_eq]
    simp only [gOctetWriterU32.loop1]
    have hn : nthI ss (p.length : Int) = x := by
      unfold nthI
      rw [h]
      simp
    have := wnum_d (n := 4) (by omega) (by omega) hx.1 acc (by omega)
    rw [show ((4 : Nat) : Int) = 4 from rfl] at this
    rw [ltI_t (by unfold lenL; omega), need_t (show InB _ _ from ⟨by omega, by unfold lenL; omega⟩), hn, cvtu64 hx.1 (by omega), this]
    simp only [cond_true, bind_so]
    rw [addI_n (by omega) (by omega)]
    have ih := u32w ss hs hl t (p ++ [x]) (acc ++ be 4 x) (by rw [h]; simp) (by rw [List.length_append, be_len]; omega)
    rw [List.flatMap_cons, ← List.append_assoc, ← ih]
    congr 2
    simp
theorem u32w_d {ss : List Int} (hs : ∀ x ∈ ss, 0 ≤ x ∧ x < 4294967296) (hl : ss.length < 256) (acc : List UInt8) (ha : acc.length ≤ 10000) : gOctetWriterU32 (nums acc) ss = some (nums (acc ++ ss.flatMap (be 4))) := by
  unfold gOctetWriterU32
  have := u32w ss hs hl ss [] acc rfl (by omega)
  rw [show (([] : List Int).length : Int) = 0 from rfl] at this
  rw [this]
  rfl
theorem put_d (s : List UInt8) (hs : 0 < s.length) (hl : s.length < 256) (acc : List UInt8) (ha : acc.length ≤ 900000) : gOctetWriterPut (nums acc) [ofB s] = some (nums (acc ++ s)) := by
  unfold gOctetWriterPut
  rw [loopF_eq]
  simp only [gOctetWriterPut.loop1]
  rw [ltI_t (show (0 : Int) < lenL [ofB s] by show (0 : Int) < 1; omega), need_t (show InB 0 (lenL [ofB s]) from ⟨by omega, by show (0 : Int) < 1; omega⟩), show nthI [ofB s] 0 = ofB s from rfl, lenS_of, need_t (by omega), need_t (show AppB _ _ _ from ⟨by rw [nums_len]; omega, by rw [nums_len]; omega⟩), numsOf_of]
  simp only [cond_true]
  rw [addI_n (by omega) (by omega), loopF_eq]
  simp only [gOctetWriterPut.loop1]
  rw [ltI_f (show ¬ (0 + 1 : Int) < lenL [ofB s] by show ¬ ((0 : Int) + 1 < 1); omega), ← show appL (nums acc) (nums s) = nums (acc ++ s) from (nums_app acc s).symm]
  rfl

/-- What a letter writes. -/
def outL (c : Cmd) (x : Int) : List UInt8 :=
  if x = 114 then be 1 (lenS c.fRoom) ++ bytesOf c.fRoom ++ be 1 (lenS c.fName) ++ bytesOf c.fName
  else if x = 112 then be 2 c.fPeer
  else if x = 111 then be 2 c.fOf
  else if x = 116 then be 1 c.fTrack
  else if x = 108 then be 1 c.fLayer
  else if x = 98 then [bitB c.fOn]
  else if x = 115 then bitB c.fVideo :: (be 1 (lenL c.fSsrcs) ++ c.fSsrcs.flatMap (be 4))
  else []
structure Rng (c : Cmd) : Prop where
  room : c.fRoom.size < 256
  name : c.fName.size < 256
  peer : 0 ≤ c.fPeer ∧ c.fPeer < 65536
  of : 0 ≤ c.fOf ∧ c.fOf < 65536
  track : 0 ≤ c.fTrack ∧ c.fTrack < 256
  layer : 0 ≤ c.fLayer ∧ c.fLayer < 256
  len : c.fSsrcs.length < 256
  srcs : ∀ x ∈ c.fSsrcs, 0 ≤ x ∧ x < 4294967296
theorem app1 (acc : List UInt8) (x : Int) : appL (nums acc) [cvtI .u8 x] = nums (acc ++ be 1 x) := by
  have hb : be 1 x = [(x % 256).toNat.toUInt8] := by simp [be]
  rw [nums_app, hb, cvtu8]
  unfold appL
  congr 1
  show [x % 256] = [((x % 256).toNat.toUInt8.toNat : Int)]
  rw [byte_of (by omega) (by omega)]
theorem bit_d (b : Bool) : gControlBit b = some ((bitB b).toNat : Int) := by cases b <;> rfl
theorem outL_len {c : Cmd} (h : Rng c) (x : Int) : (outL c x).length ≤ 2000 := by
  have a := h.room; have b := h.name; have d := h.len
  unfold outL
  repeat' split
  all_goals simp only [List.length_append, List.length_cons, List.length_nil, be_len, be_flat_len, bytesOf_len]
  all_goals omega
theorem text_loop {c : Cmd} (hc : Rng c) (r : ByteArray) : ∀ (xs : List Int) (pos : Nat) (acc : List UInt8), scan r pos = xs → (114 ∈ xs → 0 < c.fRoom.size ∧ 0 < c.fName.size) → acc.length + 2000 * xs.length ≤ 10000 →
    loopF (gControlCommandText.loop1 c r) (nums acc, pos) = some (.go (nums (acc ++ xs.flatMap (outL c)))) := by
  intro xs
  induction xs with
  | nil =>
    intro pos acc hs _ _
    have h : restS r pos = [] := by
      by_cases h : restS r pos = []
      · exact h
      · rw [scan_t h] at hs; cases hs
    rw [loopF_eq]
    simp only [gControlCommandText.loop1, nextB_f h]
    simp
  | cons x xs ih =>
    intro pos acc hs hx ha
    have h : restS r pos ≠ [] := fun h => by rw [scan_f h] at hs; cases hs
    rw [scan_t h] at hs
    obtain ⟨hr, hs2⟩ := List.cons.inj hs
    have hlen := outL_len hc x
    rw [List.length_cons] at ha
    rw [List.flatMap_cons, ← List.append_assoc, ← ih (stepS r pos) (acc ++ outL c x) hs2 (fun m => hx (List.mem_cons_of_mem _ m)) (by rw [List.length_append]; omega), loopF_eq]
    have hA : ∀ {q : List UInt8} {m : Int}, q.length ≤ 20000 → m ≤ 1000 → AppB (lenL (nums q)) m 1 := fun {q m} hq hm => ⟨by rw [nums_len]; omega, by rw [nums_len]; omega⟩
    have a0 := hc.room; have b0 := hc.name; have d0 := hc.len
    simp only [gControlCommandText.loop1, nextB_t h, cond_true, hr, eqI_d]
    by_cases h1 : x = 114
    · subst h1
      obtain ⟨y1, y2⟩ := hx (by simp)
      have g1 := put_d (bytesOf c.fRoom) (by rw [bytesOf_len]; omega) (by rw [bytesOf_len]; omega)
      have g2 := put_d (bytesOf c.fName) (by rw [bytesOf_len]; omega) (by rw [bytesOf_len]; omega)
      rw [ofB_of] at g1 g2
      rw [need_t (hA (by omega) (by omega)), app1, g1 _ (by rw [List.length_append, be_len]; omega)]
      simp only [decide_true, cond_true, bind_so]
      rw [need_t (hA (by simp [be_len, bytesOf_len]; omega) (by omega)), app1, g2 _ (by simp [be_len, bytesOf_len]; omega)]
      simp [outL]
    by_cases h2 : x = 112
    · subst h2
      rw [u16w hc.peer.1 hc.peer.2 acc (by omega)]
      simp [outL]
    by_cases h3 : x = 111
    · subst h3
      rw [u16w hc.of.1 hc.of.2 acc (by omega)]
      simp [outL]
    by_cases h4 : x = 116
    · subst h4
      rw [need_t (hA (by omega) (by omega)), app1]
      simp [outL, app1, need_t (hA (q := acc) (m := 1) (by omega) (by omega))]
    by_cases h5 : x = 108
    · subst h5
      rw [need_t (hA (by omega) (by omega)), app1]
      simp [outL, app1, need_t (hA (q := acc) (m := 1) (by omega) (by omega))]
    by_cases h6 : x = 98
    · subst h6
      rw [bit_d]
      simp only [bind_so, Int.reduceEq, decide_true, decide_false, cond_true, cond_false]
      rw [need_t (hA (by omega) (by omega))]
      have : appL (nums acc) [((bitB c.fOn).toNat : Int)] = nums (acc ++ [bitB c.fOn]) := by rw [nums_app]; rfl
      rw [this]
      simp [outL]
    by_cases h7 : x = 115
    · subst h7
      rw [bit_d c.fVideo]
      simp only [bind_so, Int.reduceEq, decide_true, decide_false, cond_true, cond_false]
      rw [need_t (hA (by omega) (by omega))]
      have : appL (nums acc) [((bitB c.fVideo).toNat : Int), cvtI .u8 (lenL c.fSsrcs)] = nums (acc ++ (bitB c.fVideo :: be 1 (lenL c.fSsrcs))) := by
        have := app1 (acc ++ [bitB c.fVideo]) (lenL c.fSsrcs)
        rw [List.append_assoc] at this
        rw [show bitB c.fVideo :: be 1 (lenL c.fSsrcs) = [bitB c.fVideo] ++ be 1 (lenL c.fSsrcs) from rfl, ← this, nums_app]
        simp [appL, nums]
      rw [this, u32w_d hc.srcs hc.len _ (by simp only [List.length_append, List.length_cons, be_len]; omega)]
      simp [outL]
    · simp [h1, h2, h3, h4, h5, h6, h7, outL]
theorem shp_rng {c : Cmd} {s : List UInt8} (h : Shp c s) : Rng c ∧ s = (runesL (hasL c.fKind)).flatMap (outL c) := by
  have h0 : noS.size = 0 := rfl
  have hz := shp_sizes h
  cases h <;> refine ⟨⟨hz.1, hz.2.1, ?_, ?_, ?_, ?_, hz.2.2, ?_⟩, ?_⟩ <;> try simp only [r1, r2, r3, r4, r5, r6, r7, r8]
  all_goals first
    | exact ⟨by omega, by omega⟩
    | assumption
    | exact fun x hx => by cases hx
    | simp [outL, lenS_of, ofB_b, lenL]
theorem text_d {c : Cmd} {s : List UInt8} (h : Shp c s) (hn : c.fKind = 1 → 0 < c.fRoom.size ∧ 0 < c.fName.size) : gControlCommandText c = some (ofB (be 1 c.fKind ++ s)) := by
  obtain ⟨hr, hs⟩ := shp_rng h
  have hk := shp_kind h
  unfold gControlCommandText
  have hb : be 1 c.fKind = [c.fKind.toNat.toUInt8] := kb hk
  rw [need_t (show AppB 0 1 1 from ⟨by omega, by omega⟩), has_d]
  simp only [bind_so]
  rw [show appL ([] : List Int) [cvtI .u8 c.fKind] = nums (be 1 c.fKind) from app1 [] c.fKind, text_loop hr (ofB (hasL c.fKind)) (runesL (hasL c.fKind)) 0 (be 1 c.fKind) (scan_has _) (fun m => hn (by
    by_cases q : c.fKind = 1
    · exact q
    · exfalso
      rcases kinds hk with e | e | e | e | e | e | e | e
      · exact q e
      all_goals
        rw [e] at m
        simp [r2, r3, r4, r5, r6, r7, r8] at m)) (by
    rw [be_len]
    rcases kinds hk with e | e | e | e | e | e | e | e <;> rw [e] <;> simp [r1, r2, r3, r4, r5, r6, r7, r8])]
  simp only [bind_so, flC_go]
  rw [← hs, need_t, str_nums]
  refine ⟨fun q => ?_, fun x hx => ?_⟩
  · rw [hb] at q; cases q
  · unfold nums at hx
    obtain ⟨b, _, rfl⟩ := List.mem_map.1 hx
    have := b.toNat_lt
    omega

/-! ### The document's writer -/
theorem rnum_loop (n : Nat) (hn : 1 ≤ n ∧ n ≤ 8) : ∀ (m : Nat) (i x : Int) (t : List UInt8), i + m = n → 0 ≤ i → 0 ≤ x → x < 18446744073709551616 → t.length + m ≤ 100 →
    loopF (gRef02Num.loop1 (n : Int)) (i, ofB t, x) = some (.go (ofB (be m x ++ t)))
  | 0, i, x, t, h1, h2, h3, h4, h5 => by
    have hm : minI (maxI (n : Int) 1) 8 = (n : Int) := by rw [minI_d, maxI_d]; omega
    rw [loopF_eq]
    simp only [gRef02Num.loop1, hm]
    rw [ltI_f (by omega)]
    rfl
  | m + 1, i, x, t, h1, h2, h3, h4, h5 => by
    have hm : minI (maxI (n : Int) 1) 8 = (n : Int) := by rw [minI_d, maxI_d]; omega
    have hr : remI x 256 = x % 256 := by unfold remI; exact Int.tmod_eq_emod_of_nonneg h3
    have hq : quoI .u64 x 256 = x / 256 := by unfold quoI; rw [Int.tdiv_eq_ediv_of_nonneg h3, wrapU64 (by omega) (by omega)]
    have hc : strOfNums [cvtI .u8 (remI x 256)] = ofB [(x % 256).toNat.toUInt8] := bytes_ext (by
      rw [nums_b, ofB_b, hr, cvtu8]
      simp)
    have hcat : catS (ofB [(x % 256).toNat.toUInt8]) (ofB t) = ofB ([(x % 256).toNat.toUInt8] ++ t) := bytes_ext (by rw [catS_b, ofB_b, ofB_b, ofB_b])
    rw [loopF_eq]
    simp only [gRef02Num.loop1, hm]
    rw [ltI_t (by omega), hc, hq, hcat, need_t (show NonZ 256 by unfold NonZ; omega), need_t (show CatB _ _ by unfold CatB; rw [size_of, size_of]; simp; omega), need_t (show NonZ 256 by unfold NonZ; omega), addI_n (by omega) (by omega)]
    simp only [cond_true]
    rw [rnum_loop n hn m (i + 1) (x / 256) _ (by omega) (by omega) (by omega) (by omega) (by simp; omega), be]
    simp
theorem rnum_d {n : Nat} (hn : 1 ≤ n ∧ n ≤ 8) {x : Int} (h0 : 0 ≤ x) (h1 : x < 18446744073709551616) : gRef02Num (n : Int) (cvtI .u64 x) = some (ofB (be n x)) := by
  rw [cvtu64 h0 h1]
  unfold gRef02Num
  rw [nil_ofB, rnum_loop n hn n 0 x [] (by omega) (by omega) h0 h1 (by simp; omega)]
  simp
theorem rn1 {x : Int} (h : 0 ≤ x ∧ x < 256) : gRef02Num 1 (cvtI .u64 x) = some (ofB (be 1 x)) := rnum_d (n := 1) (by omega) h.1 (by omega)
theorem rn2 {x : Int} (h : 0 ≤ x ∧ x < 65536) : gRef02Num 2 (cvtI .u64 x) = some (ofB (be 2 x)) := rnum_d (n := 2) (by omega) h.1 (by omega)
theorem rn4 {x : Int} (h : 0 ≤ x ∧ x < 4294967296) : gRef02Num 4 (cvtI .u64 x) = some (ofB (be 4 x)) := rnum_d (n := 4) (by omega) h.1 (by omega)
theorem cat_of (a b : List UInt8) : catS (ofB a) (ofB b) = ofB (a ++ b) := bytes_ext (by rw [catS_b, ofB_b, ofB_b, ofB_b])
theorem need_cat {α : Type} {a b : List UInt8} {x : Option α} (h : a.length + b.length ≤ 1000000) : need (CatB (ofB a) (ofB b)) x = x := need_t (by unfold CatB; rw [size_of, size_of]; omega)
theorem rbit_d (b : Bool) : gRef07Bit b = some (ofB [bitB b]) := by cases b <;> rfl
theorem rtext_loop (c : Cmd) (hs : ∀ x ∈ c.fSsrcs, 0 ≤ x ∧ x < 4294967296) (hl : c.fSsrcs.length < 256) : ∀ (t p : List Int) (acc : List UInt8), c.fSsrcs = p ++ t → acc.length + 4 * t.length ≤ 900000 →
    loopF (gRef07Text.loop6 c) ((p.length : Int), ofB acc) = some (.go (ofB (acc ++ t.flatMap (be 4))))
  | [], p, acc, h, ha => by
    rw [loopF_eq]
    simp only [gRef07Text.loop6]
    rw [ltI_f (by unfold lenL; rw [h]; simp)]
    simp
  | x :: t, p, acc, h, ha => by
    have hx := hs x (by rw [h]; simp)
    have hL : c.fSsrcs.length = p.length + (t.length + 1) := by rw [h]; simp
    rw [List.length_cons] at ha
    rw [loopF_eq]
    simp only [gRef07Text.loop6]
    have hn : nthI c.fSsrcs (p.length : Int) = x := by
      unfold nthI
      rw [h]
      simp
    rw [ltI_t (by unfold lenL; omega), need_t (show InB _ _ from ⟨by omega, by unfold lenL; omega⟩), hn, rn4 hx]
    simp only [cond_true, bind_so, cat_of]
    rw [need_cat (by rw [be_len]; omega), addI_n (by omega) (by omega)]
    have ih := rtext_loop c hs hl t (p ++ [x]) (acc ++ be 4 x) (by rw [h]; simp) (by rw [List.length_append, be_len]; omega)
    rw [List.flatMap_cons, ← List.append_assoc, ← ih]
    congr 2
    simp
theorem rtext_d {c : Cmd} {s : List UInt8} (h : Shp c s) : gRef07Text c = some (ofB (be 1 c.fKind ++ s)) := by
  unfold gRef07Text gRef07Of gRef07Track
  cases h
  case join r n hr hn =>
    simp (disch := first | omega | (simp only [List.length_append, be_len]; omega)) only [lenS_of, rn1, bind_so, need_cat, cat_of, eqI_d, decide_true, cond_true]
    simp
  case publish p t v ss hp ht hl hs =>
    have hloop := rtext_loop (.mk 3 noS noS p 0 t 0 false v ss) hs hl ss [] (be 1 3 ++ be 2 p ++ be 1 t ++ ([bitB v] ++ be 1 (ss.length : Int))) rfl (by simp [be_len]; omega)
    rw [show (([] : List Int).length : Int) = 0 from rfl] at hloop
    have hle : lenL ss = (ss.length : Int) := rfl
    simp (disch := first | omega | (simp only [List.length_append, be_len, List.length_cons, List.length_nil]; omega)) only [hle, rbit_d, rn1, rn2, bind_so, flC_go, need_cat, cat_of, eqI_d, leI_d, Int.reduceEq, Int.reduceLE, pickB, decide_true, decide_false, cond_true, cond_false, hloop]
    simp
  all_goals
    simp (disch := first | omega | (simp only [List.length_append, be_len, List.length_cons, List.length_nil]; omega)) only [rbit_d, rn1, rn2, bind_so, flC_go, need_cat, cat_of, eqI_d, leI_d, Int.reduceEq, Int.reduceLE, pickB, decide_true, decide_false, cond_true, cond_false]
    simp
end Go.Proofs

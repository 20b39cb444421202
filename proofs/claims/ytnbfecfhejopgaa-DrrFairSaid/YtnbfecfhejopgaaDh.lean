/- Fair by the shares: the law's loops. No condition. -/
import Derived.Test.YtnbfecfhejopgaaDg
namespace Go.Proofs
open Go.Ab

theorem mul_bd {x q A B : Int} (h0 : -A ≤ x) (h1 : x ≤ A) (q0 : 0 ≤ q) (q1 : q ≤ B) (hA : 0 ≤ A) : -(A * B) ≤ x * q ∧ x * q ≤ A * B := by
  have e1 : x * q ≤ A * q := Int.mul_le_mul_of_nonneg_right h1 q0
  have e2 : A * q ≤ A * B := Int.mul_le_mul_of_nonneg_left q1 hA
  have e3 : (-A) * q ≤ x * q := Int.mul_le_mul_of_nonneg_right h0 q0
  rw [Int.neg_mul] at e3
  omega

theorem near_ok {x y p q m : Int} (m0 : 1 ≤ m) (m1 : m ≤ 64) (p0 : 0 ≤ p) (p1 : p ≤ 1000) (q0 : 0 ≤ q) (q1 : q ≤ 1000) (x0 : -20000 ≤ x) (x1 : x ≤ 20000) (y0 : -20000 ≤ y) (y1 : y ≤ 20000)
    (h1 : x * q - y * p ≤ p * q + m * q + m * p) (h2 : -(x * q - y * p) ≤ p * q + m * q + m * p) : gLaw19Near x y p q m = some true := by
  obtain ⟨a1, a2⟩ := mul_bd (A := 20000) (B := 1000) x0 x1 q0 q1 (by omega)
  obtain ⟨b1, b2⟩ := mul_bd (A := 20000) (B := 1000) y0 y1 p0 p1 (by omega)
  obtain ⟨c1, c2⟩ := mul_bd (A := 1000) (B := 1000) (by omega) p1 q0 q1 (by omega)
  obtain ⟨d1, d2⟩ := mul_bd (A := 64) (B := 1000) (by omega) m1 q0 q1 (by omega)
  obtain ⟨e1, e2⟩ := mul_bd (A := 64) (B := 1000) (by omega) m1 p0 p1 (by omega)
  unfold gLaw19Near
  rw [mulI_n (a := x) (b := q) (by omega) (by omega), mulI_n (a := y) (b := p) (by omega) (by omega), mulI_n (a := p) (b := q) (by omega) (by omega), mulI_n (a := m) (b := q) (by omega) (by omega), mulI_n (a := m) (b := p) (by omega) (by omega),
    subI_n (by omega) (by omega), addI_n (a := p * q) (by omega) (by omega), addI_n (by omega) (by omega)]
  have en : negI .i64 (x * q - y * p) = -(x * q - y * p) := by
    unfold negI
    rw [wrap64_of (by omega) (by omega)]
    omega
  rw [en, leI_t h1, leI_t h2]
  rfl

def NearAll (n : Nat) (m : Int) (sh f : Int → Int) : Prop := ∀ k1 k2 : Int, 0 ≤ k1 → k1 < k2 → k2 < n → Near m (sh k1) (sh k2) (f k1 * sh k2 - f k2 * sh k1)

theorem pair1 {n : Nat} {m : Int} {sh f : Int → Int} (h : NearAll n m sh f) (hm : 0 ≤ m) (hs : ∀ k : Int, 0 ≤ k → k < n → 0 ≤ sh k) {i j : Int} (i0 : 0 ≤ i) (i1 : i < n) (j0 : 0 ≤ j) (j1 : j < n) :
    f i * sh j - f j * sh i ≤ sh i * sh j + m * sh j + m * sh i ∧ -(f i * sh j - f j * sh i) ≤ sh i * sh j + m * sh j + m * sh i := by
  have a := Int.mul_nonneg (hs i i0 i1) (hs j j0 j1)
  have b := Int.mul_nonneg hm (hs i i0 i1)
  have c := Int.mul_nonneg hm (hs j j0 j1)
  rcases Int.lt_trichotomy i j with hij | hij | hij
  · obtain ⟨h1, h2⟩ := h i j i0 hij j1
    omega
  · subst hij
    omega
  · obtain ⟨h1, h2⟩ := h j i j0 hij i1
    rw [Int.mul_comm (sh j) (sh i)] at h2
    omega

theorem pair2 {n : Nat} {m : Int} {sh f g : Int → Int} (h : NearAll n m sh f) (h' : NearAll n m sh g) (hm : 0 ≤ m) (hs : ∀ k : Int, 0 ≤ k → k < n → 0 ≤ sh k) {i j : Int} (i0 : 0 ≤ i) (i1 : i < n) (j0 : 0 ≤ j) (j1 : j < n) :
    (f i - g i) * sh j - (f j - g j) * sh i ≤ sh i * sh j + m * sh j + m * sh i ∧ -((f i - g i) * sh j - (f j - g j) * sh i) ≤ sh i * sh j + m * sh j + m * sh i := by
  have a := Int.mul_nonneg (hs i i0 i1) (hs j j0 j1)
  have b := Int.mul_nonneg hm (hs i i0 i1)
  have c := Int.mul_nonneg hm (hs j j0 j1)
  rw [Int.sub_mul, Int.sub_mul]
  rcases Int.lt_trichotomy i j with hij | hij | hij
  · obtain ⟨h1, h2⟩ := h i j i0 hij j1
    obtain ⟨h3, h4⟩ := h' i j i0 hij j1
    omega
  · subst hij
    omega
  · obtain ⟨h1, h2⟩ := h j i j0 hij i1
    obtain ⟨h3, h4⟩ := h' j i j0 hij i1
    rw [Int.mul_comm (sh j) (sh i)] at h2 h4
    omega

theorem Fair.all {n : Nat} {m a : Int} {gr : Bool} {sh lf sent : Int → Int} (h : Fair n m sh a gr lf sent) (hsh : ∀ k : Int, 0 ≤ k → k < n → 0 ≤ sh k) : NearAll n m sh sent := fun _ _ h0 h1 h2 => h.near hsh h0 h1 h2
theorem Fair.congr {n : Nat} {m a : Int} {gr : Bool} {sh lf sent sent' : Int → Int} (h : Fair n m sh a gr lf sent) (he : ∀ k : Int, 0 ≤ k → k < n → sent' k = sent k) : Fair n m sh a gr lf sent' := by
  obtain ⟨h1, ⟨r, c, h2, h3⟩, h4, h5, h6⟩ := h
  exact ⟨h1, ⟨r, c, h2, fun k k0 k1 => by rw [he k k0 k1]; exact h3 k k0 k1⟩, h4, h5, h6⟩

theorem nthI_setI {l : List Int} {k : Int} (h0 : 0 ≤ k) (h1 : k < l.length) (v : Int) {x : Int} (hx0 : 0 ≤ x) (hx1 : x < l.length) : nthI (setI l k v) x = if x = k then v else nthI l x := by
  have hk : k.toNat < l.length := by omega
  have hx : x.toNat < l.length := by omega
  unfold nthI setI
  rw [List.getD_eq_getElem?_getD, List.getD_eq_getElem?_getD, List.getElem?_set]
  by_cases h : x = k
  · subst h
    rw [if_pos rfl, if_pos hk, if_pos rfl]; rfl
  · rw [if_neg (by omega), if_neg h]
theorem setI_len (l : List Int) (k v : Int) : (setI l k v).length = l.length := by simp [setI]
theorem inB_of {l : List Int} {n : Nat} (hl : l.length = n) {k : Int} (h0 : 0 ≤ k) (h1 : k < n) : InB k (lenL l) := ⟨h0, by unfold lenL; omega⟩

theorem sub_of {l : List Int} {n : Nat} (hl : l.length = n) {k : Int} (h0 : 0 ≤ k) (h1 : k < n) : 0 < l.length - k.toNat := by omega
theorem need_uu {α : Type} {a b c d : Bool} {p : Prop} {x : Option α} (h : p) : need (Under a b (Under c d p)) x = x := need_t fun _ _ => h

section
variable {x0 : Int} {x1 x2 : List Int} {r4 : Int × Bool × DrrSched} {v9 : List Int} {s6 : Int × (List (Int × Int)) × (List (Int × Int)) × Int × Int × Bool × List Int × List Int} {v5 : List Int × (List (Int × Int)) × (List (Int × Int)) × Int × Int × Bool} {v8 : List Antiphonref19Head}

theorem loop11_ok {n : Nat} (en : minI (lenL x1) 5 = (n : Int)) (hn5 : n ≤ 5) {S' : List Int} (eS : setI s6.2.2.2.2.2.2.1 r4.1 (addI .i64 (nthI s6.2.2.2.2.2.2.1 r4.1) ((nthI v8 r4.1).fSize)) = S') {i : Int} (i0 : 0 ≤ i) (i1 : i < n)
    (hS : (s6.2.2.2.2.2.2.1).length = n) (h9 : v9.length = n) (h5 : v5.1.length = n)
    (hn1 : ∀ b : Int, 0 ≤ b → b < n → gLaw19Near (nthI S' i) (nthI S' b) (nthI v5.1 i) (nthI v5.1 b) (addI .i64 1 (bitsOp .and .i64 x0 63)) = some true)
    (hn2 : 40 ≤ s6.1 → ∀ b : Int, 0 ≤ b → b < n → gLaw19Near (subI .i64 (nthI S' i) (nthI v9 i)) (subI .i64 (nthI S' b) (nthI v9 b)) (nthI v5.1 i) (nthI v5.1 b) (addI .i64 1 (bitsOp .and .i64 x0 63)) = some true) :
    loopF (gLaw19DrrFair.loop11 x0 x1 r4 i v9 s6 v5 v8) 0 = some (.go ()) := by
  obtain ⟨t, ht, rfl⟩ := loop_ends (body := gLaw19DrrFair.loop11 x0 x1 r4 i v9 s6 v5 v8) (fun p => ∃ b : Nat, b ≤ n ∧ p = (b : Int)) (fun t => t = .go ()) (fun p => ((n : Int) - p).toNat) (by
    rintro p ⟨b, hb, rfl⟩
    unfold gLaw19DrrFair.loop11
    rw [en, eS]
    by_cases hlt : b < n
    · have b0 : (0 : Int) ≤ b := by omega
      have b1 : (b : Int) < n := by omega
      have hi : InB i (n : Int) := ⟨i0, i1⟩
      have hb : InB (b : Int) (n : Int) := ⟨b0, b1⟩
      rw [ltI_t b1, cond_true, need_t hi, need_t (sub_of hS i0 i1), need_t hb, need_t (sub_of hS b0 b1), need_t (inB_of h5 i0 i1), need_t (inB_of h5 b0 b1), hn1 b b0 b1]
      simp only [bind_so]
      rw [need_uu (hi), need_uu (sub_of hS i0 i1), need_uu (hi), need_uu (sub_of h9 i0 i1), need_uu (hb), need_uu (sub_of hS b0 b1), need_uu (hb), need_uu (sub_of h9 b0 b1), need_uu (inB_of h5 i0 i1), need_uu (inB_of h5 b0 b1)]
      have ei : addI .i64 (b : Int) 1 = ((b + 1 : Nat) : Int) := by rw [addI_n (by omega) (by omega)]; omega
      by_cases h40 : 40 ≤ s6.1
      · rw [hn2 h40 b b0 b1, leI_t h40, need_uu (show (some true : Option Bool).isSome = true from rfl)]
        refine ⟨⟨b + 1, by omega, ei⟩, by simp only; rw [ei]; omega⟩
      · rw [leI_f h40, need_t (show Under false true _ from fun h => by cases h)]
        refine ⟨⟨b + 1, by omega, ei⟩, by simp only; rw [ei]; omega⟩
    · rw [ltI_f (by omega), cond_false]
      rfl) 0 ⟨0, by omega, rfl⟩
  exact ht

theorem loop10_ok {n : Nat} (en : minI (lenL x1) 5 = (n : Int)) (hn5 : n ≤ 5) {S' : List Int} (eS : setI s6.2.2.2.2.2.2.1 r4.1 (addI .i64 (nthI s6.2.2.2.2.2.2.1 r4.1) ((nthI v8 r4.1).fSize)) = S')
    (hS : (s6.2.2.2.2.2.2.1).length = n) (h9 : v9.length = n) (h5 : v5.1.length = n)
    (hn1 : ∀ i b : Int, 0 ≤ i → i < n → 0 ≤ b → b < n → gLaw19Near (nthI S' i) (nthI S' b) (nthI v5.1 i) (nthI v5.1 b) (addI .i64 1 (bitsOp .and .i64 x0 63)) = some true)
    (hn2 : 40 ≤ s6.1 → ∀ i b : Int, 0 ≤ i → i < n → 0 ≤ b → b < n → gLaw19Near (subI .i64 (nthI S' i) (nthI v9 i)) (subI .i64 (nthI S' b) (nthI v9 b)) (nthI v5.1 i) (nthI v5.1 b) (addI .i64 1 (bitsOp .and .i64 x0 63)) = some true) :
    loopF (gLaw19DrrFair.loop10 x0 x1 r4 v9 s6 v5 v8) 0 = some (.go ()) := by
  obtain ⟨t, ht, rfl⟩ := loop_ends (body := gLaw19DrrFair.loop10 x0 x1 r4 v9 s6 v5 v8) (fun p => ∃ b : Nat, b ≤ n ∧ p = (b : Int)) (fun t => t = .go ()) (fun p => ((n : Int) - p).toNat) (by
    rintro p ⟨b, hb, rfl⟩
    unfold gLaw19DrrFair.loop10
    rw [en]
    by_cases hlt : b < n
    · have ei : addI .i64 (b : Int) 1 = ((b + 1 : Nat) : Int) := by rw [addI_n (by omega) (by omega)]; omega
      rw [ltI_t (by omega), cond_true, loop11_ok en hn5 eS (i := (b : Int)) (by omega) (by omega) hS h9 h5 (fun c c0 c1 => hn1 b c (by omega) (by omega) c0 c1) (fun h c c0 c1 => hn2 h b c (by omega) (by omega) c0 c1)]
      simp only [bind_so, flC_go]
      refine ⟨⟨b + 1, by omega, ei⟩, by simp only; rw [ei]; omega⟩
    · rw [ltI_f (by omega), cond_false]
      rfl) 0 ⟨0, by omega, rfl⟩
  exact ht

/-- The size of a head in a round. -/
def szF (x2 : List Int) (m i k : Int) : Int := addI .i64 (remI (bitsOp .and .i64 (nthI x2 (remI (addI .i64 i (mulI .i64 3 k)) (lenL x2))) 65535) m) 1
theorem szF_ok (x2 : List Int) {m : Int} (m0 : 1 ≤ m) (m1 : m ≤ 64) (i k : Int) : 1 ≤ szF x2 m i k ∧ szF x2 m i k ≤ m := by
  unfold szF
  generalize nthI x2 (remI (addI .i64 i (mulI .i64 3 k)) (lenL x2)) = y
  have e : bitsOp .and .i64 y 65535 = y % 65536 := and_mask' (j := 16) (by decide) y 65535 (by decide)
  have e2 : remI (y % 65536) m = y % 65536 % m := by
    unfold remI
    rw [Int.tmod_eq_emod_of_nonneg (by omega)]
  have h1 := Int.emod_nonneg (y % 65536) (b := m) (by omega)
  have h2 := Int.emod_lt_of_pos (y % 65536) (b := m) (by omega)
  rw [e, e2, addI_n (by omega) (by omega)]
  omega

theorem loop8_ok {n : Nat} (en : minI (lenL x1) 5 = (n : Int)) (hn5 : n ≤ 5) {m : Int} (em : addI .i64 1 (bitsOp .and .i64 x0 63) = m) (m0 : 1 ≤ m) (i0 : 0 ≤ s6.1) (i1 : s6.1 ≤ 200) (hx2 : 0 < x2.length) :
    loopF (gLaw19DrrFair.loop8 x0 x1 x2 s6) (0, []) = some (.go (headsF (szF x2 m s6.1) n)) := by
  obtain ⟨t, ht, rfl⟩ := loop_ends (body := gLaw19DrrFair.loop8 x0 x1 x2 s6) (fun p => ∃ b : Nat, b ≤ n ∧ p = ((b : Int), headsF (szF x2 m s6.1) b)) (fun t => t = .go (headsF (szF x2 m s6.1) n)) (fun p => ((n : Int) - p.1).toNat) (by
    rintro p ⟨b, hb, rfl⟩
    unfold gLaw19DrrFair.loop8
    simp only
    rw [en, em]
    by_cases hlt : b < n
    · have ei : addI .i64 (b : Int) 1 = ((b + 1 : Nat) : Int) := by rw [addI_n (by omega) (by omega)]; omega
      have hl : lenL (headsF (szF x2 m s6.1) b) = (b : Int) := by unfold lenL; rw [headsF_len]
      have e3 : addI .i64 s6.1 (mulI .i64 3 (b : Int)) = s6.1 + 3 * b := by rw [mulI_n (by omega) (by omega), addI_n (by omega) (by omega)]
      have hpos : (0 : Int) < lenL x2 := by unfold lenL; omega
      have hin : InB (remI (addI .i64 s6.1 (mulI .i64 3 (b : Int))) (lenL x2)) (lenL x2) := by
        rw [e3]
        unfold remI
        rw [Int.tmod_eq_emod_of_nonneg (by omega)]
        exact ⟨Int.emod_nonneg _ (by omega), Int.emod_lt_of_pos _ hpos⟩
      rw [ltI_t (by omega), cond_true, need_t (show NonZ (lenL x2) by unfold NonZ; omega), need_t hin, need_t (show NonZ m by unfold NonZ; omega), hl, need_t (show AppB (b : Int) 1 16 from ⟨by omega, by omega⟩)]
      refine ⟨⟨b + 1, by omega, ?_⟩, by simp only; rw [ei]; omega⟩
      rw [ei, headsF_succ]; rfl
    · have : b = n := by omega
      subst this
      rw [ltI_f (by omega), cond_false]
      rfl) (0, []) ⟨0, by omega, rfl⟩
  exact ht
end

set_option maxRecDepth 100000 in
theorem drrFair_plain (x0 : Int) (x1 x2 : List Int) : gLaw19DrrFair x0 x1 x2 = some true := by
  obtain ⟨em, m0, m1⟩ := most_of x0
  unfold gLaw19DrrFair
  have hn : ∃ n : Nat, n ≤ 5 ∧ n ≤ x1.length ∧ minI (lenL x1) 5 = (n : Int) := ⟨min x1.length 5, by omega, by omega, by rw [minI_d]; unfold lenL; omega⟩
  obtain ⟨n, hn5, hnl, en⟩ := hn
  obtain ⟨s0, e0, r0⟩ := new_ok (mo := 1 + x0 % 64) (by omega) (by omega)
  rw [em, en]
  generalize hm : 1 + x0 % 64 = m at *
  -- the flows
  obtain ⟨t5, ht5, q, f5, l5, o5, a5, g5, sh, rfl, hr5, hq, hsh⟩ := loop_ends (body := gLaw19DrrFair.loop5 x0 x1)
    (fun p => ∃ (i : Nat) (sh : Int → Int), i ≤ n ∧ p.1 = (i : Int) ∧ (p.2.1.length = i ∧ ∀ k : Int, 0 ≤ k → k < i → nthI p.2.1 k = sh k) ∧ SR (DrrSched.mk p.2.2.2.2.1 p.2.2.1 p.2.2.2.1 p.2.2.2.2.2.1 p.2.2.2.2.2.2) m sh (fun _ => 0) 0 false ∧
      (∀ k : Int, 0 ≤ k → k < i → m ≤ sh k ∧ sh k ≤ m + 255) ∧ ∀ k : Int, (i : Int) ≤ k → sh k = 0)
    (fun t => ∃ q f l mo a g sh, t = .go (q, f, l, mo, a, g) ∧ SR (DrrSched.mk mo f l a g) m sh (fun _ => 0) 0 false ∧ (q.length = n ∧ ∀ k : Int, 0 ≤ k → k < n → nthI q k = sh k) ∧ ∀ k : Int, 0 ≤ k → k < n → m ≤ sh k ∧ sh k ≤ m + 255)
    (fun p => ((n : Int) - p.1).toNat) (by
      rintro ⟨c, q, f, l, mo, a, g⟩ hp
      obtain ⟨i, sh, hi, hp1, hq, hr, h1, h2⟩ := hp
      simp only at hp1 hq hr
      subst hp1
      unfold gLaw19DrrFair.loop5
      simp only
      rw [em, en]
      by_cases hlt : i < n
      · have hnth : ∃ y : Int, nthI x1 (i : Int) = y := ⟨_, rfl⟩
        obtain ⟨y, hy⟩ := hnth
        obtain ⟨es, q0, q1⟩ := share_of m y m0 m1
        have hql : lenL q = (i : Int) := by unfold lenL; omega
        rw [ltI_t (by omega), cond_true, need_t (show InB _ _ from ⟨by omega, by unfold lenL; omega⟩), hql, need_t (show AppB (i : Int) 1 8 from ⟨by omega, by omega⟩), need_t (show InB _ _ from ⟨by omega, by omega⟩), hy, es]
        have hget : ∀ k : Int, 0 ≤ k → k < ((i + 1 : Nat) : Int) → nthI (appL q [m + y % 256]) k = if k = (i : Int) then m + y % 256 else nthI q k := fun k k0 k1 => by
          unfold nthI appL
          rw [List.getD_eq_getElem?_getD, List.getD_eq_getElem?_getD]
          by_cases hk : k = (i : Int)
          · subst hk
            rw [if_pos rfl, List.getElem?_append_right (by omega)]
            have : (i : Int).toNat - q.length = 0 := by omega
            rw [this]; rfl
          · rw [if_neg hk, List.getElem?_append_left (by omega)]
        obtain ⟨s', c1, c2⟩ := add_ok hr (id := (i : Int)) (q := m + y % 256) (by omega) (by omega) (by rw [h2 _ (Int.le_refl _)]; decide)
        rw [hget _ (by omega) (by omega), if_pos rfl, c1]
        simp only [bind_so]
        have ei : addI .i64 (i : Int) 1 = ((i + 1 : Nat) : Int) := by rw [addI_n (by omega) (by omega)]; omega
        rw [neI_f rfl, cond_false]
        refine ⟨⟨i + 1, setF sh (i : Int) (m + y % 256), by omega, ei, ⟨by simp [appL, hq.1], fun k hk0 hk1 => ?_⟩, c2, fun k hk0 hk1 => ?_, fun k hk => ?_⟩, by simp only; rw [ei]; omega⟩
        · simp only
          rw [hget k hk0 hk1]
          by_cases hki : k = (i : Int)
          · subst hki; simp only [setF, if_true]
          · simp only [setF, if_neg hki]
            exact hq.2 k hk0 (by omega)
        · by_cases hki : k = (i : Int)
          · subst hki; simp only [setF, if_true]; omega
          · simp only [setF, if_neg hki]
            exact h1 k hk0 (by omega)
        · have hki : k ≠ (i : Int) := by omega
          simp only [setF, if_neg hki]
          exact h2 k (by omega)
      · rw [ltI_f (by omega), cond_false]
        have : i = n := by omega
        subst this
        exact ⟨_, _, _, _, _, _, sh, rfl, ⟨hr.mo, hr.sh, hr.lf, hr.at_, hr.gr⟩, hq, h1⟩)
    (0, [], s0.fShare, s0.fLeft, s0.fMost, s0.fAt, s0.fGranted) ⟨0, _, by omega, rfl, ⟨rfl, fun k h0 h1 => by omega⟩, ⟨r0.mo, r0.sh, r0.lf, r0.at_, r0.gr⟩, fun k h0 h1 => by omega, fun k _ => rfl⟩
  rw [e0]
  simp only [bind_so, optC_some, awake_ok]
  rw [neI_f rfl]
  simp only [notB_f', pickB_f, cond_false, ht5, bind_so, flC_go]
  by_cases hz : eqI (n : Int) 0 = true ∨ eqI (lenL x2) 0 = true
  · have : pickB (eqI (n : Int) 0) true (eqI (lenL x2) 0) = true := by
      rw [pickB_or]
      rcases hz with h | h <;> simp [h]
    rw [this]
    rfl
  have hz1 : eqI (n : Int) 0 = false := by simpa using fun h => hz (.inl h)
  have hz2 : eqI (lenL x2) 0 = false := by simpa using fun h => hz (.inr h)
  have hn0 : 0 < n := by
    rcases Nat.eq_zero_or_pos n with h | h
    · subst h; rw [eqI_t (by rfl)] at hz1; cases hz1
    · exact h
  have hx2 : 0 < x2.length := by
    rcases Nat.eq_zero_or_pos x2.length with h | h
    · rw [eqI_t (by unfold lenL; omega)] at hz2; cases hz2
    · exact h
  have hrep : RepB (n : Int) (n : Int) 8 := ⟨by omega, rfl, by omega, by omega⟩
  rw [hz1, hz2, pickB_f, cond_false, need_t hrep, need_t hrep]
  have shB : ∀ k : Int, 0 ≤ k → k < n → m ≤ sh k ∧ sh k ≤ 1000 := fun k h0 h1 => by
    have := hsh k h0 h1
    omega
  have shN : ∀ k : Int, 0 ≤ k → k < n → 0 ≤ sh k := fun k h0 h1 => by
    have := hsh k h0 h1
    omega
  -- the turns
  obtain ⟨t6, ht6, v6, rfl⟩ := loop_ends (body := gLaw19DrrFair.loop6 x0 x1 x2 (q, f5, l5, o5, a5, g5))
    (fun p => ∃ (i : Nat) (lf : Int → Int), i ≤ 150 ∧ p.1 = (i : Int) ∧ SR (DrrSched.mk p.2.2.2.1 p.2.1 p.2.2.1 p.2.2.2.2.1 p.2.2.2.2.2.1) m sh lf p.2.2.2.2.1 p.2.2.2.2.2.1 ∧
      Fair n m sh p.2.2.2.2.1 p.2.2.2.2.2.1 lf (fun k => nthI p.2.2.2.2.2.2.1 k) ∧ p.2.2.2.2.2.2.1.length = n ∧ p.2.2.2.2.2.2.2.length = n ∧
      (∀ k : Int, 0 ≤ k → k < n → 0 ≤ nthI p.2.2.2.2.2.2.1 k ∧ nthI p.2.2.2.2.2.2.1 k ≤ 64 * (i : Int)) ∧
      (40 < i → NearAll n m sh (fun k => nthI p.2.2.2.2.2.2.2 k) ∧ ∀ k : Int, 0 ≤ k → k < n → 0 ≤ nthI p.2.2.2.2.2.2.2 k ∧ nthI p.2.2.2.2.2.2.2 k ≤ 10000))
    (fun t => ∃ v, t = .go v)
    (fun p => (150 - p.1).toNat) (by
      rintro ⟨c, f, l, mo, a, g, S, F⟩ hp
      obtain ⟨i, lf, hi, hp1, hr, hF, hS, hFl, hSb, h40⟩ := hp
      simp only at hp1 hr hF hS hFl hSb h40
      subst hp1
      unfold gLaw19DrrFair.loop6
      simp only
      by_cases hlt : i < 150
      · have ei : addI .i64 (i : Int) 1 = ((i + 1 : Nat) : Int) := by rw [addI_n (by omega) (by omega)]; omega
        have h8 := loop8_ok (s6 := ((i : Int), f, l, mo, a, g, S, F)) en hn5 em m0 (by simp only; omega) (by simp only; omega) hx2
        simp only at h8
        obtain ⟨k, s', s'', lf', c1, c2, c3, c4, c5⟩ := stepF (sz := szF x2 m (i : Int)) hr hF ⟨m0, m1⟩ (by omega) shB (fun k _ _ => szF_ok x2 m0 m1 _ k)
        obtain ⟨z1, z2⟩ := szF_ok x2 m0 m1 (i : Int) k
        have hv : nthI (headsF (szF x2 m (i : Int)) n) k = ⟨k, szF x2 m (i : Int) k⟩ := headsF_get c2.1 c2.2
        have hkB := hSb k c2.1 c2.2
        have hadd : addI .i64 (nthI S k) (szF x2 m (i : Int) k) = nthI S k + szF x2 m (i : Int) k := addI_n (by omega) (by omega)
        have hkl : k < S.length := by omega
        have hget : ∀ x : Int, 0 ≤ x → x < n → nthI (setI S k (nthI S k + szF x2 m (i : Int) k)) x = setF (fun k => nthI S k) k (nthI S k + szF x2 m (i : Int) k) x := fun x h0 h1 => by
          rw [nthI_setI c2.1 hkl _ h0 (by omega)]; rfl
        have hF' : Fair n m sh k true lf' (fun x => nthI (setI S k (nthI S k + szF x2 m (i : Int) k)) x) := c5.congr hget
        have hSb' : ∀ x : Int, 0 ≤ x → x < n → 0 ≤ nthI (setI S k (nthI S k + szF x2 m (i : Int) k)) x ∧ nthI (setI S k (nthI S k + szF x2 m (i : Int) k)) x ≤ 64 * ((i + 1 : Nat) : Int) := fun x h0 h1 => by
          rw [hget x h0 h1]
          have := hSb x h0 h1
          by_cases hx : x = k
          · subst hx; simp only [setF, if_true]; omega
          · simp only [setF, if_neg hx]; omega
        have hall := hF'.all shN
        have hS' : (setI S k (nthI S k + szF x2 m (i : Int) k)).length = n := by rw [setI_len]; exact hS
        have hInN : InB k (n : Int) := ⟨c2.1, c2.2⟩
        have hInS : InB k (lenL S) := inB_of hS c2.1 c2.2
        have hIn8 : InB k (lenL (headsF (szF x2 m (i : Int)) n)) := ⟨c2.1, by unfold lenL; rw [headsF_len]; exact c2.2⟩
        rw [ltI_t (by omega), cond_true, h8]
        simp only [bind_so, flC_go]
        rw [c1]
        simp only [bind_so]
        rw [en, ltI_f (by omega), leI_f (by omega)]
        simp only [notB_f', pickB_f, cond_false]
        rw [need_t hIn8, hv]
        simp only
        rw [c3]
        simp only [bind_so]
        rw [need_t hInN, need_t (sub_of hS c2.1 c2.2), need_t hIn8, need_t hInN, need_t hInS, hadd]
        -- what the differences are held against
        have hv9 : ∃ F' : List Int, F'.length = n ∧ (40 ≤ i → NearAll n m sh (fun k => nthI F' k) ∧ ∀ k : Int, 0 ≤ k → k < n → 0 ≤ nthI F' k ∧ nthI F' k ≤ 10000) ∧
            ∀ (X : Type) (K : List Int → Option X), (bif (eqI (i : Int) 40) then (need (lenL F = (n : Int)) <| need (lenL S = (n : Int)) <| K (setI S k (nthI S k + szF x2 m (i : Int) k))) else K F) = K F' := by
          by_cases h : (i : Int) = 40
          · refine ⟨setI S k (nthI S k + szF x2 m (i : Int) k), hS', fun _ => ⟨hall, fun x h0 h1 => by have := hSb' x h0 h1; omega⟩, fun X K => ?_⟩
            rw [eqI_t h, cond_true, need_t (by unfold lenL; omega), need_t (by unfold lenL; omega)]
          · refine ⟨F, hFl, fun h' => h40 (by omega), fun X K => ?_⟩
            rw [eqI_f h, cond_false]
        obtain ⟨F', hF'l, hF'n, hF'e⟩ := hv9
        have hF'e2 : ∀ {Y Z : Type}, ((bif (eqI (i : Int) 40) then (need (lenL F = (n : Int)) <| need (lenL S = (n : Int)) <| some (.go (setI S k (nthI S k + szF x2 m (i : Int) k)))) else some (.go F)) : Option (Fl (List Int) (Fl Y Z))) = some (.go F') :=
          fun {Y Z} => hF'e (Fl (List Int) (Fl Y Z)) (fun x => some (.go x))
        rw [hF'e2]
        simp only [bind_so, flC_go]
        have h10 := loop10_ok (x0 := x0) (x1 := x1) (r4 := (k, true, s')) (v9 := F') (s6 := ((i : Int), f, l, mo, a, g, S, F)) (v5 := (q, f5, l5, o5, a5, g5)) (v8 := headsF (szF x2 m (i : Int)) n) en hn5
          (S' := setI S k (nthI S k + szF x2 m (i : Int) k)) (by simp only; rw [hv, hadd]) hS hF'l hq.1 (fun b c b0 b1 c0 c1 => by
            simp only
            rw [em, hq.2 b b0 b1, hq.2 c c0 c1]
            have h1 := hSb' b b0 b1
            have h2 := hSb' c c0 c1
            have h3 := shB b b0 b1
            have h4 := shB c c0 c1
            obtain ⟨p1, p2⟩ := pair1 hall (by omega) shN b0 b1 c0 c1
            exact near_ok m0 m1 (by omega) h3.2 (by omega) h4.2 (by omega) (by omega) (by omega) (by omega) p1 p2)
          (fun h b c b0 b1 c0 c1 => by
            simp only at h ⊢
            obtain ⟨n1, n2⟩ := hF'n (by omega)
            have h1 := hSb' b b0 b1
            have h2 := hSb' c c0 c1
            have h3 := shB b b0 b1
            have h4 := shB c c0 c1
            have h5 := n2 b b0 b1
            have h6 := n2 c c0 c1
            rw [em, hq.2 b b0 b1, hq.2 c c0 c1, subI_n (by omega) (by omega), subI_n (by omega) (by omega)]
            obtain ⟨p1, p2⟩ := pair2 hall n1 (by omega) shN b0 b1 c0 c1
            exact near_ok m0 m1 (by omega) h3.2 (by omega) h4.2 (by omega) (by omega) (by omega) (by omega) p1 p2)
        rw [h10]
        simp only [bind_so, flC_go]
        refine ⟨⟨i + 1, lf', by omega, ei, ⟨c4.mo, c4.sh, c4.lf, rfl, rfl⟩, ?_, hS', hF'l, hSb', fun h => hF'n (by omega)⟩, by simp only; rw [ei]; omega⟩
        simp only
        rw [c4.at_, c4.gr]
        exact hF'
      · rw [ltI_f (by omega), cond_false]
        exact ⟨_, rfl⟩)
    (0, f5, l5, o5, a5, g5, repL (n : Int) 0, repL (n : Int) 0) ⟨0, _, by omega, rfl, ⟨hr5.mo, hr5.sh, hr5.lf, rfl, rfl⟩, by
      simp only
      rw [show a5 = 0 from hr5.at_, show g5 = false from hr5.gr]
      have hz : ∀ k : Int, 0 ≤ k → k < n → nthI (repL (n : Int) (0 : Int)) k = 0 := fun k h0 h1 => by
        unfold nthI repL
        rw [List.getD_eq_getElem?_getD, List.getElem?_replicate]
        split <;> rfl
      refine ⟨⟨by omega, by omega⟩, ⟨0, 0, rfl, fun k h0 h1 => ?_⟩, fun k _ _ => Int.le_refl _, fun k _ _ _ => by omega, ?_⟩
      · rw [hz k h0 h1, if_neg (by omega)]; simp
      · have := hsh 0 (by omega) (by omega); omega, by simp [repL], by simp [repL], fun k h0 h1 => by
        simp only
        unfold nthI repL
        rw [List.getD_eq_getElem?_getD, List.getElem?_replicate]
        split <;> simp <;> decide, fun h => by omega⟩
  rw [ht6]
  rfl
end Go.Proofs

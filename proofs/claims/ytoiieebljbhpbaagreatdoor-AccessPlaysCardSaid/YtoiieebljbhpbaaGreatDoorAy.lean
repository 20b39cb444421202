import Derived.Test.YtoiieebljbhpbaaGreatDoorM10
import Derived.Test.YtoiieebljbhpbaaGreatDoorM06
import Derived.Test.YtoiieebljbhpbaaGreatDoorM11
namespace Go.Proofs
open Go.Ab Go.Lib
noncomputable def pn (i : Int) : ByteArray := catS ⟨#[112]⟩ (Utf8.encode (cvtI .i32 (addI .i64 97 i)))
theorem cvt32 {n : Int} (h0 : 0 ≤ n) (h1 : n ≤ 1000) : cvtI .i32 n = n := by
 unfold cvtI; rw [IntKind.wrap_i32]; omega
theorem pn_b {i : Nat} (h : i < 100) : bytesOf (pn (i : Int)) = 112 :: encodeRune (97 + (i : Int)) := by
 unfold pn;rw [catS_b, enc_b, addI_n (by omega) (by omega), cvt32 (by omega) (by omega)]; rfl
theorem pn_size {i : Nat} (h : i < 100) : (pn (i : Int)).size ≤ 1000 := by
 rw [← bytesOf_len, pn_b h, List.length_cons];have := (enc_len (97 + (i : Int))).2;omega
theorem pn_goodL : ∀ i : Nat, i < 6 → goodB (runesL (112 :: encodeRune (97 + (i : Int)))) = true := by decide +kernel
theorem pn_foldL : ∀ i : Nat, i < 6 → foldB (112 :: encodeRune (97 + (i : Int))) = [112, (97 + i).toUInt8] := by decide +kernel
theorem pn_good {i : Nat} (h : i < 6) : goodB (scan (pn i) 0) = true := by rw [scan_b, pn_b (by omega)]; exact pn_goodL i h
theorem u8_ne : ∀ i : Nat, i < 6 → ∀ j : Nat, j < 6 → i ≠ j → (97 + i).toUInt8 ≠ (97 + j).toUInt8 := by decide
theorem pn_ne {i j : Nat} (hi : i < 6) (hj : j < 6) (h : i ≠ j) : eqS (foldS (pn i)) (foldS (pn j)) = false := by
 rw [eqF, pn_b (by omega), pn_b (by omega), pn_foldL i hi, pn_foldL j hj];refine decide_eq_false fun q => u8_ne i hi j hj h ?_;simpa using q
noncomputable def hallL : Nat → List Pr
 | 0 => []
 | k + 1 => hallL k ++ [⟨(k : Int), pn k, shall⟩]
theorem hall_mem {p : Pr} : ∀ {k : Nat}, p ∈ hallL k → ∃ i : Nat, i < k ∧ p = ⟨(i : Int), pn i, shall⟩
 | 0, h => by cases h
 | k + 1, h => by
   rw [hallL] at h;rcases List.mem_append.1 h with h | h
   ·obtain ⟨i, h1, h2⟩ := hall_mem h;exact ⟨i, by omega, h2⟩
   ·exact ⟨k, by omega, List.mem_singleton.1 h⟩
theorem hall_len : ∀ k, (hallL k).length = k
 | 0 => rfl
 | k + 1 => by rw [hallL, List.length_append, hall_len k]; rfl
theorem hall_in (k : Nat) : inL (hallL k) shall = hallL k := List.filter_eq_self.2 fun p hp => by
 obtain ⟨i, _, rfl⟩ := hall_mem hp;exact eqS_self _
theorem hall_rooms (k : Nat) : (nubL (roomsL (hallL k))).length ≤ 1 := by
 refine Nat.le_trans (nub_le (l' := [foldS shall]) fun x hx => ?_) (by simp [nubL]);obtain ⟨p, hp, rfl⟩ := List.mem_map.1 hx;obtain ⟨i, _, rfl⟩ := hall_mem hp;exact List.mem_singleton.2 rfl
theorem hall_join {k : Nat} (h : k < 6) : joinL (hallL k) (k : Int) shall (pn k) = (hallL (k + 1), ((k + 1 : Nat) : Int), (k : Int), 0) := by
 unfold joinL;rw [if_pos ⟨g_hall, pn_good h⟩, hall_in]
 have h1 : hasN (hallL k) (pn k) = false := by
  unfold hasN;refine List.any_eq_false.2 fun p hp => ?_;obtain ⟨i, hi, rfl⟩ := hall_mem hp;simp only;rw [pn_ne (by omega) h (by omega)]; simp
 have h2 : fullL (hallL k) (k : Int) shall = false := by
  have h3 := hall_rooms k;have h4 := hall_len k;unfold fullL;rw [hall_in, h4];simp only [Bool.or_eq_false_iff, Bool.and_eq_false_iff, decide_eq_false_iff_not];omega
 rw [h1, h2];simp [hallL]
theorem hall_find (a : Int) : ∀ k : Nat, findL (hallL k) a = if 0 ≤ a ∧ a < (k : Int) then some ⟨a, pn a, shall⟩ else none
 | 0 => by rw [if_neg (by omega)]; rfl
 | k + 1 => by
   have ih := hall_find a k;unfold findL at *
   rw [hallL, List.find?_append, ih];by_cases h1 : 0 ≤ a ∧ a < (k : Int)
   ·rw [if_pos h1, if_pos (by omega)]; rfl
   ·rw [if_neg h1];by_cases h2 : a = (k : Int)
    ·subst h2;rw [if_pos (by omega)];simp [eqI_t rfl]
    ·rw [if_neg (by omega)];have : eqI (k : Int) a = false := eqI_f (by omega);simp [this]
def togH (k a b : Int) : Bool := decide (0 ≤ a ∧ a < k ∧ 0 ≤ b ∧ b < k ∧ a ≠ b)
theorem hall_tog (k : Nat) (a b : Int) : togL (hallL k) a b = togH (k : Int) a b := by
 unfold togL togH;rw [hall_find, hall_find];by_cases h1 : 0 ≤ a ∧ a < (k : Int)
 ·by_cases h2 : 0 ≤ b ∧ b < (k : Int)
  ·rw [if_pos h1, if_pos h2];simp only [Option.isSome_some, Option.getD_some, Bool.true_and, eqS_self, Bool.and_true];exact decide_eq_decide.2 (by omega)
  ·rw [if_neg h2];simp only [Option.isSome_none, Bool.false_and, Bool.and_false];exact (decide_eq_false (by omega)).symm
 ·rw [if_neg h1];simp only [Option.isSome_none, Bool.false_and];exact (decide_eq_false (by omega)).symm
def subH (k : Int) (T : List Tk) (S : List Sb) (c : Cm) : List Sb × Int :=
 if c.fOf = c.fc then (S, 15) else if togH k c.fc c.fOf = false then (S, 7) else if hasT T ⟨c.fOf, c.ff⟩ = false then (S, 9)
 else if hasS S (linkC c) = true then (updS S (linkC c) (layS c.fp), 0) else if 16 ≤ cnt S c.fc then (S, 11) else (insS (newS c) S, 0)
theorem subR_hall (k : Nat) (T : List Tk) (S : List Sb) (c : Cm) : subR (hallL k) T S c = subH (k : Int) T S c := by unfold subR subH; rw [hall_tog]
theorem do_pub {k : Nat} {nx : Int} {T : List Tk} {S : List Sb} {c : Cm} (h3 : c.fm = 3) (hp : 0 ≤ c.fc ∧ c.fc < (k : Int)) : doM ⟨hallL k, nx, T, S⟩ c 0 = (⟨hallL k, nx, (pubR T c).1, S⟩, 0, (pubR T c).2) := by
 unfold doM;rw [if_neg (by simp), if_neg (by omega), hall_find, if_pos hp, if_neg (by simp), if_neg (by omega), if_pos h3]
theorem do_sub {k : Nat} {nx : Int} {T : List Tk} {S : List Sb} {c : Cm} (h5 : c.fm = 5) (hp : 0 ≤ c.fc ∧ c.fc < (k : Int)) : doM ⟨hallL k, nx, T, S⟩ c 0 = (⟨hallL k, nx, T, (subH (k : Int) T S c).1⟩, 0, (subH (k : Int) T S c).2) := by
 unfold doM;rw [if_neg (by simp), if_neg (by omega)];simp only;rw [hall_find, if_pos hp, if_neg (by simp), if_neg (by omega), if_neg (by omega), if_pos h5, subR_hall]
theorem do_join {k : Nat} (h : k < 6) {T : List Tk} {S : List Sb} : doM ⟨hallL k, (k : Int), T, S⟩ (.mk 1 shall (pn k) 0 0 0 0 false false []) 0 = (⟨hallL (k + 1), ((k + 1 : Nat) : Int), T, S⟩, (k : Int), 0) := by
 unfold doM;rw [if_neg (by simp), if_pos rfl];simp only;rw [hall_join h]
theorem shall_size : shall.size ≤ 1000 := by decide
theorem noS_size : noS.size ≤ 1000 := by decide
theorem ck_join {k : Nat} (h : k < 6) : gX (.mk 1 shall (pn k) 0 0 0 0 false false []) = some 0 := by
 have := valid_check (Valid.join shall (pn k) g_hall (pn_good h)) shall_size (pn_size (by omega));rw [this]; rfl
theorem ck_leave {p : Int} (hp : 0 ≤ p ∧ p ≤ 65535) : gX (.mk 2 noS noS p 0 0 0 false false []) = some 0 := by
 rw [valid_check (Valid.leave p hp) noS_size noS_size]; rfl
theorem ck_sub {p o t l : Int} (hp : 0 ≤ p ∧ p ≤ 65535) (ho : 0 ≤ o ∧ o ≤ 65535) (ht : 0 ≤ t ∧ t ≤ 3) (hl : 0 ≤ l ∧ l ≤ 2) : gX (.mk 5 noS noS p o t l false false []) = some 0 := by
 rw [valid_check (Valid.subscribe p o t l hp ho ht hl) noS_size noS_size]; rfl
theorem src3 (p t : Int) {x y z : Int} (h1 : x ≠ y) (h2 : x ≠ z) (h3 : y ≠ z) : ge (.mk 3 noS noS p 0 t 0 false true [x, y, z]) = some 0 := by
 unfold ge;have e : pickB (pickB (ltI (lenL [x, y, z]) 1) true (ltI 3 (lenL [x, y, z]))) true (pickB (ltI 1 (lenL [x, y, z])) (notB true) false) = false := rfl;simp only;rw [e, cond_false]
 have inner : ∀ i : Nat, i < 3 → loopF (ge.loop2 (.mk 3 noS noS p 0 t 0 false true [x, y, z]) (i : Int)) 0 = some (.go ()) := fun i hi =>
  walk_out (n := i) (fun j => (j : Int)) (fun j hj => by
   have hlen : [x, y, z].length = 3 := rfl;unfold ge.loop2;simp only;rw [ltI_t (by omega), cond_true, Lh (inB_at (by omega)), Lh (inB_at (by omega)), nthI_at (by omega), nthI_at (by omega), Lp (by omega)]
   have : [x, y, z][i] ≠ [x, y, z][j] := by
    have : (i = 1 ∧ j = 0) ∨ (i = 2 ∧ j = 0) ∨ (i = 2 ∧ j = 1) := by omega
    rcases this with ⟨rfl, rfl⟩ | ⟨rfl, rfl⟩ | ⟨rfl, rfl⟩
    ·exact fun q => h1 q.symm
    ·exact fun q => h2 q.symm
    ·exact fun q => h3 q.symm
   rw [eqI_f this, cond_false]) (by
   unfold ge.loop2;rw [ltI_f (by omega), cond_false])
 have w : loopF (ge.loop1 (.mk 3 noS noS p 0 t 0 false true [x, y, z])) 0 = some (.go ()) :=
  walk_out (n := 3) (fun i => (i : Int)) (fun i hi => by
   unfold ge.loop1;rw [ltI_t (by simp [lenL]; omega), cond_true, inner i hi, Lp (by omega)]; rfl) (by
   unfold ge.loop1;rw [ltI_f (by simp [lenL]), cond_false])
 rw [w]; rfl
theorem ck_pub3 {p t : Int} {x y z : Int} (h1 : x ≠ y) (h2 : x ≠ z) (h3 : y ≠ z) (hp : 0 ≤ p ∧ p ≤ 65535) (ht : 0 ≤ t ∧ t ≤ 3) : gX (.mk 3 noS noS p 0 t 0 false true [x, y, z]) = some 0 := by
 rw [valid_check (Valid.publish p t true [x, y, z] hp ht (by simp)) noS_size noS_size, if_pos rfl, src3 p t h1 h2 h3]
def hallC (i : Nat) : Cm := .mk 3 noS noS (i : Int) 0 0 0 false true [100 * (i : Int) + 1, 100 * (i : Int) + 2, 100 * (i : Int) + 3]
def hallT : Nat → List Tk
 | 0 => []
 | k + 1 => hallT k ++ [newT (hallC k)]
theorem hall_pub : ∀ k : Nat, k < 6 → pubR (hallT k) (hallC k) = (hallT (k + 1), 0) := by
 intro k hk;have : k = 0 ∨ k = 1 ∨ k = 2 ∨ k = 3 ∨ k = 4 ∨ k = 5 := by omega
 have key : ∀ T c, hasT T ⟨c.fc, c.ff⟩ = false → (c.fb.any fun x => hasM eqI x (srcL T)) = false → pubR T c = (T ++ [newT c], 0) := fun T c h1 h2 => by
  unfold pubR; rw [h1, h2]; rfl
 refine (key _ _ ?_ ?_).trans rfl
 ·rcases this with rfl | rfl | rfl | rfl | rfl | rfl <;> decide
 ·rcases this with rfl | rfl | rfl | rfl | rfl | rfl <;> decide
noncomputable abbrev hallX (k : Nat) : St4 := ⟨hallL k, (k : Int), hallT k, []⟩
theorem cvtu (n : Int) (h : 0 ≤ n ∧ n < 4294967296) : cvtI .u32 n = n := by unfold cvtI; rw [IntKind.wrap_u32]; omega
theorem hall_d (x0 : Int) : ∃ k : Nat, k ≤ 6 ∧ (k : Int) = min (max x0 0) 6 ∧ ∃ a, gV x0 = some a ∧ Rl (2 * k) (hallX k) a := by
 refine ⟨(min (max x0 0) 6).toNat, by omega, by omega, ?_⟩;generalize hk : (min (max x0 0) 6).toNat = k;have hm : minI (maxI x0 0) 6 = (k : Int) := by rw [minI_d, maxI_d]; omega
 have hk6 : k ≤ 6 := by omega
 obtain ⟨t, h1, a, rfl, h2⟩ := walk_rel (body := gV.loop1 x0) (fun i s => ∃ a, Rl (2 * i) (hallX i) a ∧ s = ((i : Int), a.fe.fg, a.fe.fh, a.fa, a.fd, a.fj))
  (fun t => ∃ a, t = .go (a.fe.fg, a.fe.fh, a.fa, a.fd, a.fj) ∧ Rl (2 * k) (hallX k) a) k (by
   rintro i s hi ⟨a, hR, rfl⟩;unfold gV.loop1;simp only;rw [hm, ltI_t (by omega), cond_true]
   have hcat : CatB ⟨#[112]⟩ (Utf8.encode (cvtI .i32 (addI .i64 97 (i : Int)))) := by
    have := pn_size (show i < 100 by omega);unfold pn at this
    have e : (catS ⟨#[112]⟩ (Utf8.encode (cvtI .i32 (addI .i64 97 (i : Int))))).size = (⟨#[112]⟩ : ByteArray).size + (Utf8.encode (cvtI .i32 (addI .i64 97 (i : Int)))).size := by
     rw [← bytesOf_len, catS_b, List.length_append, bytesOf_len, bytesOf_len]
    unfold CatB;omega
   rw [Lh hcat, eta_A];obtain ⟨a1, q1, q2, _⟩ := hR.step (by omega) (c := .mk 1 shall (pn i) 0 0 0 0 false false []) shall_size (pn_size (by omega)) (by simp) (ck_join (by omega));rw [do_join (by omega)] at q1 q2;have q1 : gl a (.mk 1 ⟨#[104, 97, 108, 108]⟩ (catS ⟨#[112]⟩ (Utf8.encode (cvtI .i32 (addI .i64 97 (i : Int))))) 0 0 0 0 false false []) = some ((i : Int), 0, a1) := q1;rw [q1, Lg];have e1 : mulI .i64 100 (i : Int) = 100 * (i : Int) := mulI_n (by omega) (by omega);have e2 : ∀ d : Int, 0 ≤ d → d ≤ 10 → cvtI .u32 (addI .i64 (100 * (i : Int)) d) = 100 * (i : Int) + d := fun d h0 h1 => by rw [addI_n (by omega) (by omega), cvtu _ (by omega)]
   simp only;rw [e1, e2 1 (by omega) (by omega), e2 2 (by omega) (by omega), e2 3 (by omega) (by omega)];obtain ⟨a2, q3, q4, _⟩ := q2.step (by omega) (c := hallC i) noS_size noS_size (by simp [hallC]) (ck_pub3 (by omega) (by omega) (by omega) (by omega) (by omega));rw [do_pub (k := i + 1) rfl ⟨by simp only [hallC]; omega, by simp only [hallC]; omega⟩] at q3 q4;simp only at q3 q4;rw [hall_pub i (by omega)] at q3 q4;have q3 : gl a1 (.mk 3 ⟨#[]⟩ ⟨#[]⟩ (i : Int) 0 0 0 false true [100 * (i : Int) + 1, 100 * (i : Int) + 2, 100 * (i : Int) + 3]) = some (0, 0, a2) := q3;rw [q3, Lg, Lp (by omega)];exact ⟨_, rfl, a2, by rw [show 2 * (i + 1) = 2 * i + 1 + 1 by omega]; exact q4, rfl⟩) (by
   rintro s ⟨a, hR, rfl⟩;unfold gV.loop1;simp only;rw [hm, ltI_f (by omega), cond_false];exact ⟨_, rfl, a, rfl, hR⟩) (s := (0, (stA [] 0 [] []).fe.fg, (stA [] 0 [] []).fe.fh, (stA [] 0 [] []).fa, (stA [] 0 [] []).fd, (stA [] 0 [] []).fj)) ⟨_, Rl.new, rfl⟩
 unfold gV;rw [new_d, Lg, h1];simp only [Lg, flC_go];exact ⟨_, rfl, h2⟩
theorem hall_at (k : Nat) (h : k ≤ 6) : ∃ a, gV (k : Int) = some a ∧ Rl (2 * k) (hallX k) a := by
 obtain ⟨j, _, h2, a, h3, h4⟩ := hall_d (k : Int);have : j = k := by omega
 subst this;exact ⟨a, h3, h4⟩
theorem Rl.links {n : Nat} {x : St4} {a : Tn} (h : Rl n x a) : gm a = some (x.S.map lnk) := by
 obtain ⟨m, h1, rfl⟩ := h;exact links_d h1.prm h1.up (by have := h1.slen; have := h1.nn; omega)
theorem Rl.len {n : Nat} {x : St4} {a : Tn} (h : Rl n x a) : gZ a.fe = some (x.L.length : Int) := by
 obtain ⟨m, h1, rfl⟩ := h;exact len_room
theorem awake13_d : gau = some true := by
 obtain ⟨a, h1, h2⟩ := hall_at 2 (by omega);have h1 : gV 2 = some a := h1;unfold gau;rw [h1, Lg, h2.len, hall_len, Lh (by rfl)];simp only [getD_so];rw [neI_f (show ((2 : Nat) : Int) = 2 from rfl), cond_false];obtain ⟨a2, q1, q2, _⟩ := h2.step (by omega) (c := .mk 5 noS noS 1 0 0 0 false false []) noS_size noS_size (by simp) (ck_sub (by omega) (by omega) (by omega) (by omega));rw [do_sub (k := 2) rfl ⟨by simp only; omega, by simp only; omega⟩] at q1 q2
 have e1 : subH 2 (hallT 2) [] (.mk 5 noS noS 1 0 0 0 false false []) = ([⟨1, 0, 0, 0, false⟩], 0) := by
  have c1 : togH 2 1 0 = true := by decide
  have c2 : hasT (hallT 2) ⟨0, 0⟩ = true := by decide
  unfold subH;rw [if_neg (by simp)];simp only;rw [c1, c2, if_neg (by simp), if_neg (by simp)];rfl
 have e1 : subH ((2 : Nat) : Int) (hallT 2) [] (.mk 5 noS noS 1 0 0 0 false false []) = ([⟨1, 0, 0, 0, false⟩], 0) := e1;simp only at q1 q2;rw [e1] at q1 q2;have q1 : gl a (.mk 5 ⟨#[]⟩ ⟨#[]⟩ 1 0 0 0 false false []) = some (0, 0, a2) := q1;rw [q1, Lg];obtain ⟨m, q3, q4⟩ := q2;subst q4;have hm : newT (hallC 0) ∈ hallT 2 := by simp [hallT]
 have hs := source_d q3 hm (j := 1) (by decide);have hs : gy (stA (hallL 2) ((2 : Nat) : Int) (hallT 2) m) 2 = some (⟨⟨0, 0⟩, 1⟩, true) := hs;have q2 : Rl (2 * 2 + 1) ⟨hallL 2, ((2 : Nat) : Int), hallT 2, [⟨1, 0, 0, 0, false⟩]⟩ (stA (hallL 2) ((2 : Nat) : Int) (hallT 2) m) := ⟨m, q3, rfl⟩;have hl := q2.links;simp only at hs hl ⊢;rw [hs, Lg, hl, Lg];obtain ⟨a3, q5, q6, _⟩ := q2.step (by omega) (c := .mk 2 noS noS 0 0 0 0 false false []) noS_size noS_size (by simp) (ck_leave (by omega))
 have e2 : doM ⟨hallL 2, ((2 : Nat) : Int), hallT 2, [⟨1, 0, 0, 0, false⟩]⟩ (.mk 2 noS noS 0 0 0 0 false false []) 0 = (⟨leaveL (hallL 2) 0, ((2 : Nat) : Int), rmN (hallT 2) 0 4, []⟩, 0, 0) := by
  unfold doM;rw [if_neg (by simp), if_neg (by simp)];have hf : (findL (hallL 2) 0).isSome = true := by rw [hall_find]; rfl
  simp only;rw [hf, if_neg (by simp), if_pos trivial];rfl
 rw [e2] at q5 q6;have q5 : gl (stA (hallL 2) ((2 : Nat) : Int) (hallT 2) m) (.mk 2 ⟨#[]⟩ ⟨#[]⟩ 0 0 0 0 false false []) = some (0, 0, a3) := q5;rw [q5, Lg];have hl3 := q6.links;simp only at hl3 ⊢;rw [hl3, need_s];rfl
theorem accessPlays_plain (x0 : List Cm) : gt x0 = some true := by
 obtain ⟨t, ht, v, rfl⟩ := walk_rel (body := gt.loop1 x0) (fun i s => ∃ x a, Rl i x a ∧ s = ((i : Int), a.fe.fg, a.fe.fh, a.fa, a.fd, a.fj, rfA x.L x.nx x.T x.S))
  (fun t => ∃ v, t = .go v) (min x0.length 80) (by
   rintro i s hi ⟨x, a, hR, rfl⟩;unfold gt.loop1;simp only
   have e : pickB (ltI (i : Int) (lenL x0)) (ltI (i : Int) 80) false = true := by
    rw [pickB_and, ltI_t (by unfold lenL; omega), ltI_t (by omega)]; rfl
   have hx : i < x0.length := by omega
   rw [e, cond_true, Lh (inB_at hx), nthI_at hx, Lp (by omega), eta_A];obtain ⟨c, c1, c2, c3, c4⟩ := few_d x0[i];obtain ⟨v, hv, _⟩ := check_some c c2 c3 (by omega);obtain ⟨a', q1, q2, q3⟩ := hR.step (by omega) c2 c3 c4 hv;have told : gaC c = some c := rfl;rw [c1, Lg, q1, Lg, told, Lg, q3, Lg];simp only;rw [neI_f rfl, neI_f rfl];generalize (doM x c v).1 = y at q2 ⊢;obtain ⟨m, q4, rfl⟩ := q2;rw [is13_d q4, need_s];simp only [getD_so, pickB_f];rw [neI_f rfl, cond_false, track_d q4, Lg];have hsl := q4.slen;have htl := q4.tlen;have hnn := q4.nn
   have hfind : ∃ r, gk (rfA y.L y.nx y.T y.S) c.fOf c.ff = some r ∧ leqI 0 r = hasT y.T ⟨c.fOf, c.ff⟩ := by
    rcases rfindT (L := y.L) (nx := y.nx) (T := y.T) (S := y.S) (by omega) c.fOf c.ff with ⟨h3, h4⟩ | ⟨k, hk, h3, h4⟩
    ·exact ⟨_, h4, by unfold hasT; rw [h3]; rfl⟩
    ·exact ⟨_, h4, by unfold hasT; rw [h3]; exact leI_t (by omega)⟩
   obtain ⟨r, h5, h6⟩ := hfind;rw [h5, Lg, h6, neB_self, cond_false, wants_d q4, Lg]
   have w : loopF (gt.loop2 c (rfA y.L y.nx y.T y.S, (doM x c v).2.1, (doM x c v).2.2) (wantsL y.S ⟨c.fOf, c.ff⟩)) (0, 0) = some (.go (lenL (wantsL y.S ⟨c.fOf, c.ff⟩))) := by
    have hpre : ∀ i, (wantsL y.S ⟨c.fOf, c.ff⟩) = wantsL (y.S.take i) ⟨c.fOf, c.ff⟩ ++ wantsL (y.S.drop i) ⟨c.fOf, c.ff⟩ := fun i => by
     unfold wantsL;rw [← List.map_append, ← List.filter_append, List.take_append_drop]
    refine walk_out (n := y.S.length) (fun i => ((i : Int), ((wantsL (y.S.take i) ⟨c.fOf, c.ff⟩).length : Int))) (fun i hi => ?_) ?_
    ·have hw := wants_len (y.S.take i) ⟨c.fOf, c.ff⟩;simp only [List.length_take] at hw;unfold gt.loop2;simp only;rw [ltI_t (by unfold lenL; omega), cond_true, Lh (inB_at hi), nthI_at hi, Lp (by omega)];have eo : pickB (eqI y.S[i].fc c.fOf) (eqI y.S[i].fN c.ff) false = ofK ⟨c.fOf, c.ff⟩ y.S[i] := by rw [pickB_and]; rfl
     rw [eo];have hn := wants_next hi ⟨c.fOf, c.ff⟩;cases ho : ofK ⟨c.fOf, c.ff⟩ y.S[i] with
     | false =>
       rw [ho] at hn;simp only [Bool.false_eq_true, if_false] at hn;rw [hn, cond_false]
     | true =>
       rw [ho] at hn;simp only [if_true] at hn;rw [hn, cond_true];have hall := hpre (i + 1);rw [hn] at hall
       have hlt : (wantsL (y.S.take i) ⟨c.fOf, c.ff⟩).length < (wantsL y.S ⟨c.fOf, c.ff⟩).length := by
        rw [hall]; simp only [List.length_append, List.length_cons, List.length_nil]; omega
       have hget : nthI (wantsL y.S ⟨c.fOf, c.ff⟩) ((wantsL (y.S.take i) ⟨c.fOf, c.ff⟩).length : Int) = y.S[i].fu := by
        rw [nthI_at hlt];simp only [hall];rw [List.getElem_append_left (by simp), List.getElem_append_right (by simp)];simp
       rw [leI_f (by unfold lenL; omega), Lh (show Under false false _ from fun _ => inB_at hlt), hget, neI_f rfl];simp only [pickB_f, cond_false];rw [Lp (by omega), List.length_append]; rfl
    ·unfold gt.loop2;simp only;rw [ltI_f (by unfold lenL; omega), cond_false, List.take_length]; rfl
   rw [w];simp only [Lg, flC_go];rw [neI_f rfl, cond_false];exact ⟨_, rfl, y, _, ⟨m, q4, rfl⟩, rfl⟩) (by
   rintro s ⟨x, a, hR, rfl⟩;unfold gt.loop1;simp only
   have e : pickB (ltI ((min x0.length 80 : Nat) : Int) (lenL x0)) (ltI ((min x0.length 80 : Nat) : Int) 80) false = false := by
    rw [pickB_and, Bool.and_eq_false_iff];by_cases q : x0.length ≤ 80
    ·exact .inl (ltI_f (by unfold lenL; omega))
    ·exact .inr (ltI_f (by omega))
   rw [e, cond_false];exact ⟨_, rfl, _, rfl⟩) (s := (0, (stA [] 0 [] []).fe.fg, (stA [] 0 [] []).fe.fh, (stA [] 0 [] []).fa, (stA [] 0 [] []).fd, (stA [] 0 [] []).fj, rfA [] 0 [] [])) ⟨_, _, Rl.new, rfl⟩
 unfold gt;rw [awake13_d, Lg, notB_f', cond_false, new_d, Lg, ht];rfl
end Go.Proofs

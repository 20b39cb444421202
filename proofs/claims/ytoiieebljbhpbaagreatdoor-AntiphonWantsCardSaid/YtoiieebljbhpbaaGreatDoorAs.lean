import Derived.Test.YtoiieebljbhpbaaGreatDoorHj
import Derived.Test.YtoiieebljbhpbaaGreatDoorM03
import Derived.Test.YtoiieebljbhpbaaGreatDoorM11
namespace Go.Proofs
open Go.Ab Go.Lib
abbrev Tk := Tu
abbrev Sb := Ts
def keyT (t : Tk) : Tc := ⟨t.fc, t.fN⟩
def entT (t : Tk) : Tc × Te := (keyT t, ⟨t.fq, t.fB, t.fa⟩)
def trkL (T : List Tk) : List (Tc × Te) := T.map entT
def srcT (t : Tk) : List (Int × Tg) := t.fa.mapIdx fun k x => (x, ⟨keyT t, (k : Int)⟩)
def srcL (T : List Tk) : List (Int × Tg) := T.flatMap srcT
def allS (T : List Tk) : List Int := T.flatMap fun t => t.fa
def lnk (s : Sb) : Tb := ⟨s.fu, ⟨s.fc, s.fN⟩⟩
def entS (s : Sb) : Tb × Tf := (lnk s, ⟨s.fo, s.fw⟩)
def subL (S : List Sb) : List (Tb × Tf) := S.map entS
abbrev stA (L : List Pr) (nx : Int) (T : List Tk) (m : List (Tb × Tf)) : Th := ⟨⟨entL L, nx⟩, trkL T, m, srcL T⟩
abbrev rfA (L : List Pr) (nx : Int) (T : List Tk) (S : List Sb) : Tn := ⟨⟨L, nx⟩, T, S⟩
section
variable {K V : Type} {eq : K → K → Bool}
theorem hasK_iff (heq : ∀ x y, eq x y = true ↔ x = y) {k : K} : ∀ {m : List (K × V)}, hasM eq k m = true ↔ k ∈ keysM m
 | [] => by simp [hasM, keysM]
 | e :: r => by
   rw [hasM, qaj, Bool.or_eq_true, hasK_iff heq (m := r), heq];simp [keysM]
theorem getK_of (heq : ∀ x y, eq x y = true ↔ x = y) {k : K} {v z : V} : ∀ {m : List (K × V)}, (keysM m).Nodup → (k, v) ∈ m → getM eq k z m = v
 | [], _, h => by cases h
 | e :: r, hn, h => by
   simp only [keysM, List.map_cons, List.nodup_cons] at hn;rw [getM];rcases List.mem_cons.1 h with rfl | h
   ·rw [if_pos ((heq _ _).2 rfl)]
   ·have : eq k e.1 ≠ true := fun q => hn.1 (((heq _ _).1 q) ▸ List.mem_map.2 ⟨_, h, rfl⟩);rw [if_neg this];exact getK_of heq hn.2 h
theorem setK_no (heq : ∀ x y, eq x y = true ↔ x = y) {k : K} {v : V} : ∀ {m : List (K × V)}, k ∉ keysM m → setM eq k v m = m ++ [(k, v)]
 | [], _ => rfl
 | e :: r, h => by
   simp only [keysM, List.map_cons, List.mem_cons, not_or] at h;rw [setM, if_neg (fun q => h.1 ((heq _ _).1 q)), setK_no heq (m := r) h.2]; rfl
theorem setK_map (heq : ∀ x y, eq x y = true ↔ x = y) {k : K} {v : V} : ∀ {m : List (K × V)}, k ∈ keysM m → (keysM m).Nodup → setM eq k v m = m.map fun e => if eq k e.1 = true then (k, v) else e
 | [], h, _ => by cases h
 | e :: r, h, hn => by
   simp only [keysM, List.map_cons, List.nodup_cons] at hn;rw [setM, List.map_cons];by_cases q : eq k e.1 = true
   ·rw [if_pos q, if_pos q];congr 1
    have : (r.map fun e => if eq k e.1 = true then (k, v) else e) = r.map id := List.map_congr_left fun x hx => by
     have h1 := (heq _ _).1 q;refine if_neg fun q2 => ?_;have h2 := (heq _ _).1 q2;exact hn.1 (h1 ▸ h2 ▸ List.mem_map.2 ⟨x, hx, rfl⟩)
    rw [this, List.map_id]
   ·rw [if_neg q, if_neg q];congr 1;refine setK_map heq ?_ hn.2;simp only [keysM, List.map_cons, List.mem_cons] at h;rcases h with h | h
    ·exact absurd ((heq _ _).2 h) q
    ·exact h
theorem delK_filter (heq : ∀ x y, eq x y = true ↔ x = y) {k : K} : ∀ (m : List (K × V)), (keysM m).Nodup → delM eq k m = m.filter fun e => !eq k e.1
 | [], _ => rfl
 | e :: r, h => by
   simp only [keysM, List.map_cons, List.nodup_cons] at h;rw [delM];by_cases hk : eq k e.1 = true
   ·rw [if_pos hk, List.filter_cons_of_neg (by simp [hk])];refine (List.filter_eq_self.2 fun a ha => ?_).symm;have h1 := (heq _ _).1 hk;by_cases h2 : eq k a.1 = true
    ·exact absurd (List.mem_map.2 ⟨a, ha, (((heq _ _).1 h2).symm.trans h1)⟩) h.1
    ·simp [h2]
   ·rw [if_neg hk, List.filter_cons_of_pos (by simp [hk]), delK_filter heq r h.2]
end
theorem eqI_ii (a b : Int) : eqI a b = true ↔ a = b := by simp [eqI]
theorem walk_keep {T α : Type} {body : Int × List α → Option (Fl (Int × List α) T)} {L : List α} (p : α → Bool) {t : T}
  (h : ∀ i (hi : i < L.length) out, out.length ≤ i → body ((i : Int), out) = some (.go (((i + 1 : Nat) : Int), if p L[i] = true then out ++ [L[i]] else out)))
  (h2 : body ((L.length : Int), L.filter p) = some (.out t)) : loopF body (0, []) = some t := by
 refine walk_out (n := L.length) (fun i => ((i : Int), (L.take i).filter p)) (fun i hi => ?_) ?_
 ·have hl : ((L.take i).filter p).length ≤ i := Nat.le_trans (List.length_filter_le _ _) (by simp only [List.length_take]; omega);rw [h i hi _ hl, take_next hi, List.filter_append];cases hp : p L[i] <;> simp [hp]
 ·rw [List.take_length]; exact h2
def findT (T : List Tk) (k : Tc) : Option Tk := T.find? fun t => Tc.eq k (keyT t)
def hasT (T : List Tk) (k : Tc) : Bool := (findT T k).isSome
abbrev noT : Te := Te.mk false false []
def trkV (o : Option Tk) : Te := match o with
 | some t => ⟨t.fq, t.fB, t.fa⟩
 | none => noT
theorem keys_trk (T : List Tk) : keysM (trkL T) = T.map keyT := by simp [keysM, trkL, entT, Function.comp_def]
theorem trk_get (k : Tc) : ∀ T : List Tk, getM Tc.eq k noT (trkL T) = trkV (findT T k) ∧ hasM Tc.eq k (trkL T) = hasT T k
 | [] => ⟨rfl, rfl⟩
 | t :: T => by
   obtain ⟨h1, h2⟩ := trk_get k T;unfold hasT findT trkL at *
   by_cases q : Tc.eq k (keyT t) = true
   ·simp [getM, hasM, entT, q, qaf, trkV]
   ·have q' : Tc.eq k (keyT t) = false := by simpa using q
    simp only [List.map_cons, getM, hasM, entT, q', List.find?_cons, Bool.false_eq_true, if_false, qaj, Bool.false_or];exact ⟨h1, h2⟩
theorem findT_mem {T : List Tk} {k : Tc} {t : Tk} (h : findT T k = some t) : t ∈ T ∧ keyT t = k := by
 refine ⟨List.mem_of_find?_eq_some h, ?_⟩;have := List.find?_some h;exact ((Tc.eq_iff _ _).1 this).symm
theorem findT_of {T : List Tk} (hn : (T.map keyT).Nodup) {t : Tk} (h : t ∈ T) : findT T (keyT t) = some t := by
 unfold findT
 induction T with
 | nil => cases h
 | cons a T ih =>
   simp only [List.map_cons, List.nodup_cons] at hn;rw [List.find?_cons];rcases List.mem_cons.1 h with rfl | h
   ·rw [(Tc.eq_iff _ _).2 rfl]
   ·have : Tc.eq (keyT t) (keyT a) = false := by
     cases q : Tc.eq (keyT t) (keyT a) with
     | false => rfl
     | true => exact absurd (((Tc.eq_iff _ _).1 q) ▸ List.mem_map.2 ⟨t, h, rfl⟩) hn.1
    rw [this]; exact ih hn.2 h
theorem hasT_iff {T : List Tk} {k : Tc} : hasT T k = true ↔ ∃ t ∈ T, keyT t = k := by
 unfold hasT findT;rw [List.find?_isSome];constructor
 ·rintro ⟨t, h, q⟩; exact ⟨t, h, ((Tc.eq_iff _ _).1 q).symm⟩
 ·rintro ⟨t, h, rfl⟩; exact ⟨t, h, (Tc.eq_iff _ _).2 rfl⟩
theorem keyEq (p n : Int) (t : Tk) : Tc.eq ⟨p, n⟩ (keyT t) = qaf (eqI t.fc p) (eqI t.fN n) false := by
 rw [qai];unfold Tc.eq keyT;rw [eqI_comm p, eqI_comm n]
theorem rfindT {L : List Pr} {nx : Int} {T : List Tk} {S : List Sb} (hl : T.length ≤ 100000) (p n : Int) :
  (findT T ⟨p, n⟩ = none ∧ gan (rfA L nx T S) p n = some (-1)) ∨ ∃ (i : Nat) (hi : i < T.length), findT T ⟨p, n⟩ = some T[i] ∧ gan (rfA L nx T S) p n = some (i : Int) := by
 obtain ⟨w1, w2⟩ := walk_any (body := gan.loop1 (rfA L nx T S) p n) (L := T) (fun t => Tc.eq ⟨p, n⟩ (keyT t)) (fun i => .out (i : Int)) (.go ()) (fun i hi => by
   unfold gan.loop1;simp only;rw [ltI_t (by unfold qat; omega), cond_true, Lh (inB_at hi), qah hi, Lr (by omega), ← keyEq];cases Tc.eq ⟨p, n⟩ (keyT T[i]) <;> rfl) (by
   unfold gan.loop1;simp only;rw [ltI_f (by unfold qat; omega), cond_false])
 unfold gan;cases h : T.any fun t => Tc.eq ⟨p, n⟩ (keyT t) with
 | false =>
   left;rw [w1 h];refine ⟨List.find?_eq_none.2 fun t ht q => ?_, rfl⟩;have := List.any_eq_false.1 h t ht;exact this q
 | true =>
   right;obtain ⟨i, hi, _, q2, q3⟩ := w2 h;exact ⟨i, hi, q2, by rw [q3]; rfl⟩
def rmT (T : List Tk) (k : Tc) : List Tk := T.filter fun t => !Tc.eq k (keyT t)
theorem rm_trk {T : List Tk} (hn : (T.map keyT).Nodup) (k : Tc) : delM Tc.eq k (trkL T) = trkL (rmT T k) := by
 rw [delK_filter Tc.eq_iff _ (by rw [keys_trk]; exact hn)];unfold trkL rmT;rw [List.filter_map];rfl
theorem rm_mem {T : List Tk} {k : Tc} {t : Tk} : t ∈ rmT T k ↔ t ∈ T ∧ keyT t ≠ k := by
 unfold rmT;rw [List.mem_filter, Bool.not_eq_true', ← Bool.not_eq_true, Tc.eq_iff];exact ⟨fun h => ⟨h.1, fun q => h.2 q.symm⟩, fun h => ⟨h.1, fun q => h.2 q.symm⟩⟩
theorem rm_sub (T : List Tk) (k : Tc) : (rmT T k).Sublist T := List.filter_sublist
theorem srcT_keys (t : Tk) : keysM (srcT t) = t.fa := by
 unfold keysM srcT;refine List.ext_getElem (by simp) fun i h1 h2 => ?_;simp
theorem srcL_keys (T : List Tk) : keysM (srcL T) = allS T := by
 unfold srcL allS keysM;rw [List.map_flatMap];congr 1;funext t;exact srcT_keys t
theorem allS_mem {T : List Tk} {x : Int} : x ∈ allS T ↔ ∃ t ∈ T, x ∈ t.fa := by unfold allS; simp
theorem src_has {T : List Tk} {x : Int} : hasM eqI x (srcL T) = true ↔ x ∈ allS T := by rw [hasK_iff eqI_ii, srcL_keys]
def notIn (l : List Int) (e : Int × Tg) : Bool := !(l.contains e.1)
theorem notIn_t {l : List Int} {e : Int × Tg} (h : e.1 ∉ l) : notIn l e = true := by simp [notIn, h]
theorem notIn_f {l : List Int} {e : Int × Tg} (h : e.1 ∈ l) : notIn l e = false := by simp [notIn, h]
theorem rm_src {T : List Tk} (hn : (allS T).Nodup) (hk : (T.map keyT).Nodup) (k : Tc) :
  (srcL T).filter (notIn (trkV (findT T k)).fa) = srcL (rmT T k) := by
 induction T with
 | nil => rfl
 | cons t T ih =>
   simp only [List.map_cons, List.nodup_cons] at hk;have hn' : (t.fa ++ allS T).Nodup := hn;rw [List.nodup_append] at hn';have ih := ih hn'.2.1 hk.2;have e0 : srcL (t :: T) = srcT t ++ srcL T := rfl;rw [e0, List.filter_append];unfold findT rmT at *
   rw [List.find?_cons, List.filter_cons];cases q : Tc.eq k (keyT t) with
   | true =>
     have hkt := (Tc.eq_iff _ _).1 q;subst hkt;have hno : ∀ a ∈ T, keyT a ≠ keyT t := fun a ha e => hk.1 (e ▸ List.mem_map.2 ⟨a, ha, rfl⟩)
     have hf : (T.filter fun a => !Tc.eq (keyT t) (keyT a)) = T := List.filter_eq_self.2 fun a ha => by
      cases h : Tc.eq (keyT t) (keyT a) with
      | false => rfl
      | true => exact absurd ((Tc.eq_iff _ _).1 h).symm (hno a ha)
     rw [hf];simp only [trkV, Bool.not_true, Bool.false_eq_true, if_false]
     have h1 : (srcT t).filter (notIn t.fa) = [] := List.filter_eq_nil_iff.2 fun e he => by
      have : e.1 ∈ keysM (srcT t) := List.mem_map.2 ⟨e, he, rfl⟩;rw [srcT_keys] at this;rw [notIn_f this]; simp
     have h2 : (srcL T).filter (notIn t.fa) = srcL T := List.filter_eq_self.2 fun e he => by
      have : e.1 ∈ keysM (srcL T) := List.mem_map.2 ⟨e, he, rfl⟩;rw [srcL_keys] at this;exact notIn_t fun h => hn'.2.2 _ h _ this rfl
     rw [h1, h2]; rfl
   | false =>
     simp only [Bool.not_false, if_true];have e1 : srcL (t :: T.filter fun a => !Tc.eq k (keyT a)) = srcT t ++ srcL (T.filter fun a => !Tc.eq k (keyT a)) := rfl;rw [e1, ih];congr 1;refine List.filter_eq_self.2 fun e he => ?_;have h1 : e.1 ∈ keysM (srcT t) := List.mem_map.2 ⟨e, he, rfl⟩;rw [srcT_keys] at h1;refine notIn_t fun h => ?_;cases hf : T.find? fun a => Tc.eq k (keyT a) with
     | none => rw [hf] at h; cases h
     | some a =>
       rw [hf] at h;exact hn'.2.2 _ h1 _ (allS_mem.2 ⟨a, List.mem_of_find?_eq_some hf, h⟩) rfl
theorem del_loop (x0 : Th) (x1 : Tc) (D : List (Int × Tg)) (hD : (keysM D).Nodup) (hl : ((getM Tc.eq x1 noT x0.fb).fa).length ≤ 100000) :
  loopF (gi.loop1 x0 x1) (0, D) = some (.go (D.filter (notIn (getM Tc.eq x1 noT x0.fb).fa))) := by
 generalize hX : (getM Tc.eq x1 noT x0.fb).fa = X at hl;have e0 : D = D.filter (notIn (X.take 0)) := (List.filter_eq_self.2 fun e _ => by simp [notIn]).symm
 have w := walk_out (body := gi.loop1 x0 x1) (n := X.length) (t := .go (D.filter (notIn X))) (fun i => ((i : Int), D.filter (notIn (X.take i)))) (fun i hi => by
  unfold gi.loop1;simp only
  rw [hX, ltI_t (by unfold qat; omega), cond_true, Lh (inB_at hi), qah hi, Lr (by omega), delK_filter eqI_ii _ (by
   unfold keysM at hD ⊢;exact hD.sublist (List.filter_sublist.map _)), List.filter_filter]
  congr 3;refine List.filter_congr fun e _ => ?_;rw [take_next hi, eqI_d, Bool.eq_iff_iff];simp only [notIn, List.contains_eq_mem, List.mem_append, List.mem_singleton, Bool.and_eq_true, Bool.not_eq_true', decide_eq_false_iff_not, not_or];exact ⟨fun h => ⟨h.2, fun q => h.1 q.symm⟩, fun h => ⟨fun q => h.2 q.symm, h.1⟩⟩) (by
  unfold gi.loop1;simp only;rw [hX, ltI_f (by unfold qat; omega), cond_false, List.take_length])
 rw [← e0] at w;exact w
theorem lnk_inj_key {S : List Sb} : keysM (subL S) = S.map lnk := by simp [keysM, subL, entS, Function.comp_def]
def ofK (k : Tc) (s : Sb) : Bool := Tc.eq (lnk s).fOf k
def rmS (S : List Sb) (k : Tc) : List Sb := S.filter fun s => !ofK k s
theorem keep_sub {m : List (Tb × Tf)} {S : List Sb} (h : m.Perm (subL S)) (p : Tb → Bool) : (keepK p m).Perm (subL (S.filter fun s => p (lnk s))) := by
 have := h.filter fun e => p e.1;unfold keepK;refine this.trans (.of_eq ?_);unfold subL;rw [List.filter_map]; rfl
theorem remove_d {L : List Pr} {nx : Int} {T : List Tk} {m : List (Tb × Tf)} (hk : (T.map keyT).Nodup) (hn : (allS T).Nodup) (hs : ∀ t ∈ T, t.fa.length ≤ 3) (k : Tc) :
  gi (stA L nx T m) k = some (stA L nx (rmT T k) (keepK (fun l => !(Tc.eq l.fOf k)) m)) := by
 obtain ⟨h1, _⟩ := trk_get k T
 have hlen : (trkV (findT T k)).fa.length ≤ 100000 := by
  cases hf : findT T k with
  | none => simp [trkV]
  | some t => have := hs t (findT_mem hf).1; simp only [trkV]; omega
 unfold gi;rw [del_loop _ _ _ (by rw [srcL_keys]; exact hn) (by simp only; rw [h1]; exact hlen)];simp only [Le, qal];rw [h1, rm_src hn hk, rm_trk hk]
theorem rremove_d {L : List Pr} {nx : Int} {T : List Tk} {S : List Sb} (h1 : T.length ≤ 100000) (h2 : S.length ≤ 100000) (p n : Int) : gas (rfA L nx T S) p n = some (rfA L nx (rmT T ⟨p, n⟩) (rmS S ⟨p, n⟩)) := by
 have w1 : loopF (gas.loop1 (rfA L nx T S) p n) (0, []) = some (.go (rmT T ⟨p, n⟩)) := by
  refine walk_keep (L := T) (fun t => !Tc.eq ⟨p, n⟩ (keyT t)) (fun i hi out ho => ?_) ?_
  ·unfold gas.loop1;simp only;rw [ltI_t (by unfold qat; omega), cond_true, Lh (inB_at hi), qah hi, Lr (by omega), Lh (show AppB (qat out) 1 48 from ⟨by unfold qat; omega, by unfold qat; omega⟩), keyEq, qai, qaj, neI_d, neI_d, eqI_d, eqI_d];by_cases a : T[i].fc = p <;> by_cases b : T[i].fN = n <;> simp [a, b, appL]
  ·unfold gas.loop1;simp only;rw [ltI_f (by unfold qat; omega), cond_false]; rfl
 have w2 : loopF (gas.loop2 (rfA L nx T S) p n) (0, []) = some (.go (rmS S ⟨p, n⟩)) := by
  refine walk_keep (L := S) (fun s => !ofK ⟨p, n⟩ s) (fun i hi out ho => ?_) ?_
  ·unfold gas.loop2 ofK Tc.eq lnk;simp only;rw [ltI_t (by unfold qat; omega), cond_true, Lh (inB_at hi), qah hi, Lr (by omega), Lh (show AppB (qat out) 1 40 from ⟨by unfold qat; omega, by unfold qat; omega⟩), qaj, neI_d, neI_d, eqI_d, eqI_d];by_cases a : S[i].fc = p <;> by_cases b : S[i].fN = n <;> simp [a, b, appL]
  ·unfold gas.loop2;simp only;rw [ltI_f (by unfold qat; omega), cond_false]; rfl
 unfold gas;rw [w1];simp only [Le, qal];rw [w2];rfl
end Go.Proofs

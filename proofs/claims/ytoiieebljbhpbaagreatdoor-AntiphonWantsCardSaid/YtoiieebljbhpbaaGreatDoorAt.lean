import Derived.Test.YtoiieebljbhpbaaGreatDoorAs
namespace Go.Proofs
open Go.Ab Go.Lib
def ltSb (a b : Sb) : Bool := decide (a.fu < b.fu ∨ (a.fu = b.fu ∧ (a.fc < b.fc ∨ (a.fc = b.fc ∧ a.fN < b.fN))))
theorem less_d (a b : Sb) : ga6 a b = some (ltSb a b) := by
 unfold ga6 ltSb;simp only [neI_d, ltI_d];by_cases h1 : a.fu = b.fu
 ·by_cases h2 : a.fc = b.fc
  ·simp [h1, h2]
  ·simp [h1, h2]
 ·simp [h1]
theorem ltSb_trans {a b c : Sb} (h : ltSb a b = true) (h' : ltSb b c = true) : ltSb a c = true := by
 simp only [ltSb, decide_eq_true_eq] at *; omega
theorem ltSb_ne {a b : Sb} (h : ltSb a b = true) : lnk a ≠ lnk b := fun e => by
 simp only [ltSb, lnk, Tb.mk.injEq, Tc.mk.injEq, decide_eq_true_eq] at *; omega
theorem ltSb_or {a b : Sb} (h : lnk a ≠ lnk b) : ltSb a b = true ∨ ltSb b a = true := by
 simp only [ltSb, lnk, ne_eq, Tb.mk.injEq, Tc.mk.injEq, decide_eq_true_eq] at *; omega
theorem up_nodup {S : List Sb} (h : S.Pairwise fun a b => ltSb a b = true) : (S.map lnk).Nodup := by
 unfold List.Nodup;rw [List.pairwise_map];exact h.imp ltSb_ne
theorem sortLk_of {l l' : List Tb} (h : l.Perm l') (hs : l'.Pairwise fun a b => leLk a b = true) : sortLk l = l' := by
 unfold sortLk;refine List.Perm.eq_of_pairwise (le := fun a b => leLk a b = true) (fun a b _ _ h1 h2 => ?_) ?_ hs ((List.mergeSort_perm l _).trans h)
 ·obtain ⟨w, p, t⟩ := a;obtain ⟨w', p', t'⟩ := b;simp only [leLk, decide_eq_true_eq] at h1 h2;have q1 : w = w' := by omega
  have q2 : p = p' := by omega
  have q3 : t = t' := by omega
  rw [q1, q2, q3]
 ·exact List.pairwise_mergeSort (fun a b c h1 h2 => by simp only [leLk, decide_eq_true_eq] at *; omega) (fun a b => by simp only [leLk, Bool.or_eq_true, decide_eq_true_eq]; omega) l
theorem links_of {m : List (Tb × Tf)} {S : List Sb} (hp : m.Perm (subL S)) (hu : S.Pairwise fun a b => ltSb a b = true) : sortLk (keysM m) = S.map lnk := by
 refine sortLk_of ((hp.map _).trans (.of_eq (lnk_inj_key (S := S)))) ?_;rw [List.pairwise_map];refine hu.imp fun {a b} h => ?_;have h := of_decide_eq_true h;refine decide_eq_true ?_;simp only [lnk];omega
theorem links_d {L : List Pr} {nx : Int} {T : List Tk} {m : List (Tb × Tf)} {S : List Sb} (hp : m.Perm (subL S)) (hu : S.Pairwise fun a b => ltSb a b = true) (hl : S.length ≤ 100000) : gj (stA L nx T m) = some (S.map lnk) := by
 unfold gj;have : m.length = S.length := by rw [hp.length_eq]; simp [subL]
 rw [Lh (show Keys3B (keysM m) by unfold Keys3B keysM; rw [List.length_map]; omega), links_of hp hu]
theorem filter_at {α : Type} {l : List α} {p : α → Bool} {i : Nat} (hi : i < l.length) (h : ∀ j (hj : j < l.length), p l[j] = true ↔ j = i) : l.filter (fun a => !p a) = l.take i ++ l.drop (i + 1) := by
 have e : l = l.take i ++ l[i] :: l.drop (i + 1) := by simp
 have h1 : (l.take i).filter (fun a => !p a) = l.take i := List.filter_eq_self.2 fun a ha => by
  obtain ⟨j, hj, rfl⟩ := List.mem_iff_getElem.1 ha;simp only [List.length_take] at hj;rw [List.getElem_take]
  have : p l[j] = false := by
   cases q : p l[j] with
   | false => rfl
   | true => have := (h j (by omega)).1 q; omega
  simp [this]
 have h2 : (l.drop (i + 1)).filter (fun a => !p a) = l.drop (i + 1) := List.filter_eq_self.2 fun a ha => by
  obtain ⟨j, hj, rfl⟩ := List.mem_iff_getElem.1 ha;simp only [List.length_drop] at hj;rw [List.getElem_drop]
  have : p l[i + 1 + j] = false := by
   cases q : p l[i + 1 + j] with
   | false => rfl
   | true => have := (h (i + 1 + j) (by omega)).1 q; omega
  simp [this]
 have h3 : p l[i] = true := (h i hi).2 rfl
 conv => lhs; rw [e]
 rw [List.filter_append, h1, List.filter_cons_of_neg (by simp [h3]), h2]
theorem set_at {α : Type} {l : List α} {p : α → Bool} {i : Nat} (hi : i < l.length) (h : ∀ j (hj : j < l.length), p l[j] = true ↔ j = i) (f : α → α) : l.set i (f l[i]) = l.map fun a => if p a = true then f a else a := by
 refine List.ext_getElem (by simp) fun j h1 h2 => ?_;simp only [List.length_set] at h1;rw [List.getElem_set, List.getElem_map];by_cases e : i = j
 ·subst e; rw [if_pos rfl, if_pos ((h i hi).2 rfl)]
 ·rw [if_neg e, if_neg (fun q => e ((h j h1).1 q).symm)]
theorem at_key {α K : Type} {l : List α} {f : α → K} (hn : (l.map f).Nodup) {eq : K → K → Bool} (heq : ∀ x y, eq x y = true ↔ x = y) {i : Nat} (hi : i < l.length) : ∀ j (hj : j < l.length), eq (f l[i]) (f l[j]) = true ↔ j = i := by
 intro j hj;rw [heq];constructor
 ·intro e;unfold List.Nodup at hn;rw [List.pairwise_map, List.pairwise_iff_getElem] at hn;rcases Nat.lt_trichotomy i j with q | q | q
  ·exact absurd e (hn i j hi hj q)
  ·exact q.symm
  ·exact absurd e.symm (hn j i hj hi q)
 ·rintro rfl; rfl
def findS (S : List Sb) (l : Tb) : Option Sb := S.find? fun s => Tb.eq l (lnk s)
def hasS (S : List Sb) (l : Tb) : Bool := (findS S l).isSome
abbrev noSub : Tf := Tf.mk 0 false
def subV (o : Option Sb) : Tf := match o with
 | some s => ⟨s.fo, s.fw⟩
 | none => noSub
theorem findS_mem {S : List Sb} {l : Tb} {s : Sb} (h : findS S l = some s) : s ∈ S ∧ lnk s = l := by
 refine ⟨List.mem_of_find?_eq_some h, ?_⟩;exact ((Tb.eq_iff _ _).1 (List.find?_some (p := fun s => Tb.eq l (lnk s)) h)).symm
theorem hasS_iff {S : List Sb} {l : Tb} : hasS S l = true ↔ ∃ s ∈ S, lnk s = l := by
 unfold hasS findS;rw [List.find?_isSome];constructor
 ·rintro ⟨s, h, q⟩; exact ⟨s, h, ((Tb.eq_iff _ _).1 q).symm⟩
 ·rintro ⟨s, h, rfl⟩; exact ⟨s, h, (Tb.eq_iff _ _).2 rfl⟩
theorem getK_no {K V : Type} {eq : K → K → Bool} (heq : ∀ x y, eq x y = true ↔ x = y) {k : K} {z : V} : ∀ {m : List (K × V)}, k ∉ keysM m → getM eq k z m = z
 | [], _ => rfl
 | e :: r, h => by
   simp only [keysM, List.map_cons, List.mem_cons, not_or] at h;rw [getM, if_neg (fun q => h.1 ((heq _ _).1 q))];exact getK_no heq h.2
section
variable {m : List (Tb × Tf)} {S : List Sb}
theorem m_keys (hp : m.Perm (subL S)) : (keysM m).Perm (S.map lnk) := (hp.map _).trans (.of_eq (lnk_inj_key (S := S)))
theorem m_nodup (hp : m.Perm (subL S)) (hu : S.Pairwise fun a b => ltSb a b = true) : (keysM m).Nodup := (m_keys hp).nodup_iff.2 (up_nodup hu)
theorem sub_get (hp : m.Perm (subL S)) (hu : S.Pairwise fun a b => ltSb a b = true) (l : Tb) : getM Tb.eq l noSub m = subV (findS S l) ∧ hasM Tb.eq l m = hasS S l := by
 have hh : hasM Tb.eq l m = hasS S l := by
  rw [Bool.eq_iff_iff, hasK_iff Tb.eq_iff, (m_keys hp).mem_iff, hasS_iff, List.mem_map]
 refine ⟨?_, hh⟩;cases hf : findS S l with
 | none =>
   refine getK_no Tb.eq_iff fun q => ?_;have := (hasK_iff Tb.eq_iff).2 q;rw [hh, hasS, hf] at this;cases this
 | some s =>
   obtain ⟨h1, rfl⟩ := findS_mem hf;exact getK_of Tb.eq_iff (m_nodup hp hu) (hp.mem_iff.2 (List.mem_map.2 ⟨s, h1, rfl⟩))
theorem set_sub (hp : m.Perm (subL S)) (hu : S.Pairwise fun a b => ltSb a b = true) {i : Nat} (hi : i < S.length) (f : Sb → Sb) (hf : ∀ s, lnk (f s) = lnk s) (v : Tf) (hv : v = ⟨(f S[i]).fo, (f S[i]).fw⟩) :
  (setM Tb.eq (lnk S[i]) v m).Perm (subL (S.set i (f S[i]))) := by
 have hm : lnk S[i] ∈ keysM m := (m_keys hp).mem_iff.2 (List.mem_map.2 ⟨_, List.getElem_mem hi, rfl⟩);rw [setK_map Tb.eq_iff hm (m_nodup hp hu), set_at hi (p := fun s => Tb.eq (lnk S[i]) (lnk s)) (at_key (up_nodup hu) Tb.eq_iff hi)];refine (hp.map _).trans (.of_eq ?_);unfold subL;rw [List.map_map, List.map_map];refine List.map_congr_left fun s hs => ?_;simp only [Function.comp];have e1 : (entS s).1 = lnk s := rfl;rw [e1];by_cases q : Tb.eq (lnk S[i]) (lnk s) = true
 ·rw [if_pos q, if_pos q];obtain ⟨j, hj, rfl⟩ := List.mem_iff_getElem.1 hs;have := (at_key (up_nodup hu) Tb.eq_iff hi j hj).1 q;subst this;rw [hv];unfold entS;rw [hf]
 ·rw [if_neg q, if_neg q]
theorem del_sub (hp : m.Perm (subL S)) (hu : S.Pairwise fun a b => ltSb a b = true) {i : Nat} (hi : i < S.length) : (delM Tb.eq (lnk S[i]) m).Perm (subL (S.take i ++ S.drop (i + 1))) := by
 rw [delK_filter Tb.eq_iff _ (m_nodup hp hu), ← filter_at hi (p := fun s => Tb.eq (lnk S[i]) (lnk s)) (at_key (up_nodup hu) Tb.eq_iff hi)];refine (hp.filter _).trans (.of_eq ?_);unfold subL;rw [List.filter_map]; rfl
end
theorem rfindS {L : List Pr} {nx : Int} {T : List Tk} {S : List Sb} (hl : S.length ≤ 100000) (w p n : Int) :
  (findS S ⟨w, ⟨p, n⟩⟩ = none ∧ gaG (rfA L nx T S) w p n = some (-1)) ∨ ∃ (i : Nat) (hi : i < S.length), findS S ⟨w, ⟨p, n⟩⟩ = some S[i] ∧ gaG (rfA L nx T S) w p n = some (i : Int) := by
 have ke : ∀ s : Sb, qaf (qaf (eqI s.fu w) (eqI s.fc p) false) (eqI s.fN n) false = Tb.eq ⟨w, ⟨p, n⟩⟩ (lnk s) := fun s => by
  rw [qai, qai];unfold Tb.eq lnk;rw [eqI_comm w, eqI_comm p, eqI_comm n]
 obtain ⟨w1, w2⟩ := walk_any (body := gaG.loop1 (rfA L nx T S) w p n) (L := S) (fun s => Tb.eq ⟨w, ⟨p, n⟩⟩ (lnk s)) (fun i => .out (i : Int)) (.go ()) (fun i hi => by
   unfold gaG.loop1;simp only;rw [ltI_t (by unfold qat; omega), cond_true, Lh (inB_at hi), qah hi, Lr (by omega), ke];cases Tb.eq ⟨w, ⟨p, n⟩⟩ (lnk S[i]) <;> rfl) (by
   unfold gaG.loop1;simp only;rw [ltI_f (by unfold qat; omega), cond_false])
 unfold gaG;cases h : S.any fun s => Tb.eq ⟨w, ⟨p, n⟩⟩ (lnk s) with
 | false =>
   left;rw [w1 h];refine ⟨List.find?_eq_none.2 fun t ht q => ?_, rfl⟩;exact (List.any_eq_false.1 h t ht) q
 | true =>
   right;obtain ⟨i, hi, _, q2, q3⟩ := w2 h;exact ⟨i, hi, q2, by rw [q3]; rfl⟩
def insS (x : Sb) : List Sb → List Sb
 | [] => [x]
 | y :: r => if ltSb x y = true then x :: y :: r else y :: insS x r
theorem ins_perm (x : Sb) : ∀ S : List Sb, (insS x S).Perm (x :: S)
 | [] => .refl _
 | y :: r => by
   rw [insS];split
   ·exact .refl _
   ·exact ((ins_perm x r).cons y).trans (.swap x y r)
theorem ins_up {x : Sb} : ∀ {S : List Sb}, S.Pairwise (fun a b => ltSb a b = true) → (∀ y ∈ S, lnk y ≠ lnk x) → (insS x S).Pairwise fun a b => ltSb a b = true
 | [], _, _ => by simp [insS]
 | y :: r, h, hn => by
   rw [List.pairwise_cons] at h;rw [insS];split
   ·rename_i hx;refine List.pairwise_cons.2 ⟨fun z hz => ?_, List.pairwise_cons.2 h⟩;rcases List.mem_cons.1 hz with rfl | hz
    ·exact hx
    ·exact ltSb_trans hx (h.1 z hz)
   ·rename_i hx;refine List.pairwise_cons.2 ⟨fun z hz => ?_, ins_up h.2 fun z hz => hn z (List.mem_cons_of_mem _ hz)⟩;rcases List.mem_cons.1 ((ins_perm x r).mem_iff.1 hz) with rfl | hz
    ·exact (ltSb_or (hn y List.mem_cons_self)).resolve_right hx
    ·exact h.1 z hz
theorem with_end {S : List Sb} {x : Sb} (d : Bool) {i : Nat} (h : S.length ≤ i) (out : List Sb) : gaC.loop1 S x ((i : Int), d, out) = some (.out (.go (d, out))) := by
 unfold gaC.loop1;simp only;rw [ltI_f (by unfold qat; omega), cond_false]
theorem with_step1 {S : List Sb} {x : Sb} (hl : S.length ≤ 10000) {i : Nat} (hi : i < S.length) {out : List Sb} (ho : out.length ≤ 20000) : gaC.loop1 S x ((i : Int), true, out) = some (.go (((i + 1 : Nat) : Int), true, out ++ [S[i]])) := by
 unfold gaC.loop1;simp only;rw [ltI_t (by unfold qat; omega), cond_true, Lh (inB_at hi), qah hi, less_d, Lh (show Under (notB true) true ((some (ltSb x S[i])).isSome = true) from fun _ => rfl), Lr (by omega)];simp only [notB_f', qaf, cond_false, Le, qal];rw [Lh (show AppB (qat out) 1 40 from ⟨by unfold qat; omega, by unfold qat; omega⟩)];rfl
theorem with_step2 {S : List Sb} {x : Sb} (hl : S.length ≤ 10000) {i : Nat} (hi : i < S.length) {out : List Sb} (ho : out.length ≤ 20000) : gaC.loop1 S x ((i : Int), false, out) = some (.go (((i + 1 : Nat) : Int), ltSb x S[i], (if ltSb x S[i] = true then out ++ [x] else out) ++ [S[i]])) := by
 unfold gaC.loop1;simp only;rw [ltI_t (by unfold qat; omega), cond_true, Lh (inB_at hi), qah hi, less_d, Lh (show Under (notB false) true ((some (ltSb x S[i])).isSome = true) from fun _ => rfl), Lr (by omega)];simp only [notB_t', qaf, cond_true, qax];cases q : ltSb x S[i] with
 | true =>
   simp only [cond_true, if_true];rw [Lh (show AppB (qat out) 1 40 from ⟨by unfold qat; omega, by unfold qat; omega⟩)];simp only [Le, qal];rw [Lh (show AppB (qat (appL out [x])) 1 40 from ⟨by unfold qat appL; simp only [List.length_append, List.length_cons, List.length_nil]; omega, by unfold qat appL; simp only [List.length_append, List.length_cons, List.length_nil]; omega⟩)];rfl
 | false =>
   simp only [cond_false, Bool.false_eq_true, if_false, Le, qal];rw [Lh (show AppB (qat out) 1 40 from ⟨by unfold qat; omega, by unfold qat; omega⟩)];rfl
theorem drop_cons {α : Type} {S r : List α} {y : α} {i : Nat} (h : S.drop i = y :: r) : ∃ hi : i < S.length, S[i] = y ∧ S.drop (i + 1) = r := by
 have hi : i < S.length := by
  rcases Nat.lt_or_ge i S.length with q | q
  ·exact q
  ·rw [List.drop_eq_nil_of_le q] at h; cases h
 rw [List.drop_eq_getElem_cons hi] at h;simp only [List.cons.injEq] at h;exact ⟨hi, h.1, h.2⟩
theorem with_done (S : List Sb) (x : Sb) (hl : S.length ≤ 10000) : ∀ (r : List Sb) (i : Nat) (out : List Sb), S.drop i = r → out.length + r.length ≤ 20000 → loopF (gaC.loop1 S x) ((i : Int), true, out) = some (.go (true, out ++ r))
 | [], i, out, h, _ => by
   rw [loopF_eq, with_end true (List.drop_eq_nil_iff.1 h), List.append_nil]
 | y :: r, i, out, h, ho => by
   obtain ⟨hi, h1, h2⟩ := drop_cons h;simp only [List.length_cons] at ho;rw [loopF_eq, with_step1 hl hi (by omega)];simp only;rw [h1, with_done S x hl r (i + 1) (out ++ [y]) h2 (by simp only [List.length_append, List.length_cons, List.length_nil]; omega)];simp
theorem with_loop (S : List Sb) (x : Sb) (hl : S.length ≤ 10000) : ∀ (r : List Sb) (i : Nat) (out : List Sb), S.drop i = r → out.length + r.length ≤ 10000 → ∃ d o, loopF (gaC.loop1 S x) ((i : Int), false, out) = some (.go (d, o)) ∧ o.length ≤ 20000 ∧ (if d = true then o else o ++ [x]) = out ++ insS x r
 | [], i, out, h, ho => by
   refine ⟨false, out, ?_, by simp only [List.length_nil] at ho; omega, by simp [insS]⟩;rw [loopF_eq, with_end false (List.drop_eq_nil_iff.1 h)]
 | y :: r, i, out, h, ho => by
   obtain ⟨hi, h1, h2⟩ := drop_cons h;simp only [List.length_cons] at ho;rw [loopF_eq, with_step2 hl hi (by omega)];simp only;rw [h1, insS];cases q : ltSb x y with
   | true =>
     simp only [if_true];rw [with_done S x hl r (i + 1) (out ++ [x] ++ [y]) h2 (by simp only [List.length_append, List.length_cons, List.length_nil]; omega)];exact ⟨_, _, rfl, by simp only [List.length_append, List.length_cons, List.length_nil]; omega, by simp⟩
   | false =>
     simp only [Bool.false_eq_true, if_false];obtain ⟨d, o, h3, h4, h5⟩ := with_loop S x hl r (i + 1) (out ++ [y]) h2 (by simp only [List.length_append, List.length_cons, List.length_nil]; omega);exact ⟨d, o, h3, h4, by rw [h5]; simp⟩
theorem with_d {S : List Sb} (hl : S.length ≤ 10000) (x : Sb) : gaC S x = some (insS x S) := by
 obtain ⟨d, o, h1, h2, h3⟩ := with_loop S x hl S 0 [] (by simp) (by simpa using hl);have h1 : loopF (gaC.loop1 S x) (0, false, []) = some (.go (d, o)) := h1;unfold gaC;rw [h1];simp only [Le, qal];rw [List.nil_append] at h3;cases d with
 | true =>
   simp only [if_true] at h3;simp only [notB_f', cond_false, Le, qal];rw [h3]
 | false =>
   simp only [Bool.false_eq_true, if_false] at h3;simp only [notB_t', cond_true];rw [Lh (show AppB (qat o) 1 40 from ⟨by unfold qat; omega, by unfold qat; omega⟩)];simp only [Le, qal];unfold appL;rw [h3]
end Go.Proofs

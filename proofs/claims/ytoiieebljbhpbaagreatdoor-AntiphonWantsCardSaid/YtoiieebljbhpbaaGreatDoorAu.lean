import Derived.Test.YtoiieebljbhpbaaGreatDoorAt
namespace Go.Proofs
open Go.Ab Go.Lib
abbrev Cm := Td
theorem any_src {T : List Tk} (x : Int) : hasM eqI x (srcL T) = T.any fun t => t.fa.any fun y => eqI y x := by
 rw [Bool.eq_iff_iff, src_has, allS_mem, List.any_eq_true];constructor
 ·rintro ⟨t, ht, hx⟩;exact ⟨t, ht, List.any_eq_true.2 ⟨x, hx, eqI_t rfl⟩⟩
 ·rintro ⟨t, ht, hx⟩;obtain ⟨y, hy, e⟩ := List.any_eq_true.1 hx;exact ⟨t, ht, (eqI_ii _ _).1 e ▸ hy⟩
noncomputable def kOf (x0 : Tn) (x : Int) (i : Nat) : Int := match loopF (gal.loop2 x0 x (i : Int)) 0 with
 | some (.out (.out (.out p))) => p.2
 | _ => 0
theorem rsource_d {L : List Pr} {nx : Int} {T : List Tk} {S : List Sb} (hl : T.length ≤ 100000) (hs : ∀ t ∈ T, t.fa.length ≤ 3) (x : Int) : ∃ r, gal (rfA L nx T S) x = some r ∧ leqI 0 r.1 = hasM eqI x (srcL T) := by
 have inner : ∀ i (hi : i < T.length), (T[i].fa.any (fun y => eqI y x) = false → loopF (gal.loop2 (rfA L nx T S) x (i : Int)) 0 = some (.go ())) ∧
   (T[i].fa.any (fun y => eqI y x) = true → loopF (gal.loop2 (rfA L nx T S) x (i : Int)) 0 = some (.out (.out (.out ((i : Int), kOf (rfA L nx T S) x i))))) := by
  intro i hi;have h3 := hs _ (List.getElem_mem hi)
  obtain ⟨w1, w2⟩ := walk_any (body := gal.loop2 (rfA L nx T S) x (i : Int)) (L := T[i].fa) (fun y => eqI y x) (fun k => .out (.out (.out ((i : Int), (k : Int))))) (.go ()) (fun k hk => by
    unfold gal.loop2;simp only;rw [qah hi, ltI_t (by unfold qat; omega), cond_true, Lh (inB_at hk), qah hk, Lr (by omega)];cases eqI T[i].fa[k] x <;> rfl) (by
    unfold gal.loop2;simp only;rw [qah hi, ltI_f (by unfold qat; omega), cond_false])
  refine ⟨w1, fun h => ?_⟩;obtain ⟨k, _, _, _, q⟩ := w2 h;unfold kOf;rw [q]
 obtain ⟨w1, w2⟩ := walk_any (body := gal.loop1 (rfA L nx T S) x) (L := T) (fun t => t.fa.any fun y => eqI y x) (fun i => .out ((i : Int), kOf (rfA L nx T S) x i)) (.go ()) (fun i hi => by
   unfold gal.loop1;simp only;rw [ltI_t (by unfold qat; omega), cond_true, Lh (inB_at hi), Lr (by omega)];obtain ⟨i1, i2⟩ := inner i hi;cases q : T[i].fa.any fun y => eqI y x with
   | false => rw [i1 q]; rfl
   | true => rw [i2 q]; rfl) (by
   unfold gal.loop1;simp only;rw [ltI_f (by unfold qat; omega), cond_false])
 unfold gal;rw [any_src];cases q : T.any fun t => t.fa.any fun y => eqI y x with
 | false => rw [w1 q]; exact ⟨_, rfl, rfl⟩
 | true =>
   obtain ⟨i, _, _, _, e⟩ := w2 q;rw [e];exact ⟨_, rfl, leI_t (by simp only; omega)⟩
def newT (c : Cm) : Tk := ⟨c.fc, c.ff, c.fq, false, c.fa⟩
def pubR (T : List Tk) (c : Cm) : List Tk × Int :=
 if hasT T ⟨c.fc, c.ff⟩ = true then (T, 10) else if c.fa.any (fun x => hasM eqI x (srcL T)) = true then (T, 16) else (T ++ [newT c], 0)
theorem src_app (T : List Tk) (t : Tk) : srcL (T ++ [t]) = srcL T ++ srcT t := by simp [srcL]
theorem all_app (T : List Tk) (t : Tk) : allS (T ++ [t]) = allS T ++ t.fa := by simp [allS]
theorem srcT_len (t : Tk) : (srcT t).length = t.fa.length := by simp [srcT]
theorem srcT_at {t : Tk} {i : Nat} (hi : i < t.fa.length) : (srcT t)[i]'(by rw [srcT_len]; exact hi) = (t.fa[i], (⟨keyT t, (i : Int)⟩ : Tg)) := by simp [srcT]
theorem publish_d {L : List Pr} {nx : Int} {T : List Tk} {m : List (Tb × Tf)} (c : Cm) (hc : c.fa.Nodup) (hl : c.fa.length ≤ 1000) :
  ge (stA L nx T m) c = some ((pubR T c).2, stA L nx (pubR T c).1 m) := by
 unfold ge pubR;simp only;rw [(trk_get _ T).2];cases ht : hasT T ⟨c.fc, c.ff⟩ with
 | true => rfl
 | false =>
   simp only [cond_false, Bool.false_eq_true, if_false]
   obtain ⟨w1, w2⟩ := walk_any (body := ge.loop1 (stA L nx T m) c) (L := c.fa) (fun x => hasM eqI x (srcL T)) (fun _ => .out (16, stA L nx T m)) (.go ()) (fun i hi => by
     unfold ge.loop1;simp only;rw [ltI_t (by unfold qat; omega), cond_true, Lh (inB_at hi), qah hi, Lr (by omega)];cases hasM eqI c.fa[i] (srcL T) <;> rfl) (by
     unfold ge.loop1;simp only;rw [ltI_f (by unfold qat; omega), cond_false])
   cases q : c.fa.any fun x => hasM eqI x (srcL T) with
   | true =>
     obtain ⟨i, _, _, _, e⟩ := w2 q;rw [e]; rfl
   | false =>
     rw [w1 q];simp only [Le, qal, Bool.false_eq_true, if_false];rw [Lh (show AppB 0 (qat c.fa) 4 from ⟨by unfold qat; omega, by unfold qat; omega⟩)]
     have hno : ∀ x ∈ c.fa, x ∉ allS T := fun x hx h => by
      have := List.any_eq_false.1 q x hx;exact this (src_has.2 h)
     have hlen := srcT_len (newT c);have hss : (newT c).fa = c.fa := rfl;rw [hss] at hlen
     have w := walk_out (body := ge.loop2 c) (n := c.fa.length) (t := .go (srcL (T ++ [newT c]))) (fun i => ((i : Int), srcL T ++ (srcT (newT c)).take i)) (fun i hi => by
      unfold ge.loop2;simp only;rw [ltI_t (by unfold qat; omega), cond_true, Lh (inB_at hi), qah hi, Lr (by omega)]
      have hk : c.fa[i] ∉ keysM (srcL T ++ (srcT (newT c)).take i) := by
       unfold keysM;rw [List.map_append, List.mem_append];rintro (h | h)
       ·exact hno _ (List.getElem_mem hi) (by rw [← srcL_keys]; exact h)
       ·rw [List.map_take] at h;have e : List.map (·.1) (srcT (newT c)) = c.fa := srcT_keys (newT c);rw [e] at h;obtain ⟨j, hj, e⟩ := List.mem_iff_getElem.1 h;simp only [List.length_take] at hj;rw [List.getElem_take] at e;have hn := hc;unfold List.Nodup at hn;rw [List.pairwise_iff_getElem] at hn;exact hn j i (by omega) hi (by omega) e
      rw [setK_no eqI_ii hk, take_next (show i < (srcT (newT c)).length by omega), srcT_at (t := newT c) hi, List.append_assoc];rfl) (by
      unfold ge.loop2;simp only;rw [ltI_f (by unfold qat; omega), cond_false, ← hlen, List.take_length, src_app])
     have e0 : srcL T ++ (srcT (newT c)).take 0 = srcL T := by simp
     rw [e0] at w;have w : loopF (ge.loop2 c) (0, srcL T) = some (.go (srcL (T ++ [newT c]))) := w;rw [w];simp only [Le, qal]
     have hkn : (⟨c.fc, c.ff⟩ : Tc) ∉ keysM (trkL T) := by
      rw [keys_trk];intro h;obtain ⟨t, h1, h2⟩ := List.mem_map.1 h;have := hasT_iff.2 ⟨t, h1, h2⟩;rw [ht] at this; cases this
     rw [setK_no Tc.eq_iff hkn];have : trkL T ++ [((⟨c.fc, c.ff⟩ : Tc), (⟨c.fq, false, c.fa⟩ : Te))] = trkL (T ++ [newT c]) := by simp [trkL, entT, keyT, newT]
     rw [this]
theorem rpublish_d {L : List Pr} {nx : Int} {T : List Tk} {S : List Sb} (hl : T.length ≤ 100000) (hs : ∀ t ∈ T, t.fa.length ≤ 3) (c : Cm) (hc : c.fa.length ≤ 1000) :
  gaN (rfA L nx T S) c = some (rfA L nx (pubR T c).1 S, (pubR T c).2) := by
 unfold gaN pubR
 obtain ⟨w1, w2⟩ := walk_any (body := gaN.loop1 (rfA L nx T S) c) (L := c.fa) (fun x => hasM eqI x (srcL T)) (fun _ => .out (rfA L nx T S, 16)) (.go ()) (fun i hi => by
   unfold gaN.loop1;obtain ⟨r, h1, h2⟩ := rsource_d (L := L) (nx := nx) (S := S) hl hs c.fa[i];rw [ltI_t (by unfold qat; omega), cond_true, Lh (inB_at hi), qah hi, Lr (by omega), h1, Le, h2];cases hasM eqI c.fa[i] (srcL T) <;> rfl) (by
   unfold gaN.loop1;rw [ltI_f (by unfold qat; omega), cond_false])
 rcases rfindT (L := L) (nx := nx) (S := S) hl c.fc c.ff with ⟨h1, h2⟩ | ⟨i, hi, h1, h2⟩
 ·have h3 : hasT T ⟨c.fc, c.ff⟩ = false := by unfold hasT; rw [h1]; rfl
  rw [h2, Le, leI_f (by omega), cond_false, h3];simp only [Bool.false_eq_true, if_false];cases q : c.fa.any fun x => hasM eqI x (srcL T) with
  | true =>
    obtain ⟨i, _, _, _, e⟩ := w2 q;rw [e]; rfl
  | false =>
    rw [w1 q];simp only [Le, qal, Bool.false_eq_true, if_false];rw [Lh (show AppB 0 (qat T) 48 from ⟨by unfold qat; omega, by unfold qat; omega⟩), Lh (show AppB (qat T) 1 48 from ⟨by unfold qat; omega, by unfold qat; omega⟩)];rfl
 ·have h3 : hasT T ⟨c.fc, c.ff⟩ = true := by unfold hasT; rw [h1]; rfl
  rw [h2, Le, leI_t (by omega), cond_true, h3];rfl
def updS (S : List Sb) (l : Tb) (f : Sb → Sb) : List Sb := S.map fun s => if Tb.eq l (lnk s) = true then f s else s
def cnt (S : List Sb) (w : Int) : Nat := (S.filter fun s => eqI s.fu w).length
def newS (c : Cm) : Sb := ⟨c.fc, c.fOf, c.ff, c.fo, false⟩
def linkC (c : Cm) : Tb := ⟨c.fc, ⟨c.fOf, c.ff⟩⟩
def layS (x : Int) (s : Sb) : Sb := ⟨s.fu, s.fc, s.fN, x, s.fw⟩
def onS (b : Bool) (s : Sb) : Sb := ⟨s.fu, s.fc, s.fN, s.fo, b⟩
noncomputable def subR (L : List Pr) (T : List Tk) (S : List Sb) (c : Cm) : List Sb × Int :=
 if c.fOf = c.fc then (S, 15) else if togL L c.fc c.fOf = false then (S, 7) else if hasT T ⟨c.fOf, c.ff⟩ = false then (S, 9)
 else if hasS S (linkC c) = true then (updS S (linkC c) (layS c.fo), 0) else if 16 ≤ cnt S c.fc then (S, 11) else (insS (newS c) S, 0)
theorem count_fold (w : Int) : ∀ m : List (Tb × Tf), m.length ≤ 100000 → m.foldr (fun e n => bif eqI e.1.fu w then addI .i64 n 1 else n) 0 = (((m.filter fun e => eqI e.1.fu w).length : Nat) : Int)
 | [], _ => rfl
 | e :: r, h => by
   simp only [List.length_cons] at h;have hl := List.length_filter_le (fun e : Tb × Tf => eqI e.1.fu w) r;rw [List.foldr_cons, count_fold w r (by omega), List.filter_cons];cases eqI e.1.fu w with
   | true => simp only [cond_true, if_true, List.length_cons]; exact Lr (by omega)
   | false => simp
section
variable {m : List (Tb × Tf)} {S : List Sb}
theorem count_d {L : List Pr} {nx : Int} {T : List Tk} (hp : m.Perm (subL S)) (hl : S.length ≤ 100000) (w : Int) : gJ (stA L nx T m) w = some ((cnt S w : Nat) : Int) := by
 have hm : m.length = S.length := by rw [hp.length_eq]; simp [subL]
 unfold gJ gaD;simp only [Le];rw [count_fold w m (by omega)];have := (hp.filter fun e => eqI e.1.fu w).length_eq;rw [this];unfold cnt subL;rw [List.filter_map, List.length_map];rfl
theorem rcount {L : List Pr} {nx : Int} {T : List Tk} (hl : S.length ≤ 100000) (c : Cm) : loopF (gaI.loop1 (rfA L nx T S) c) (0, 0) = some (.go ((cnt S c.fc : Nat) : Int)) := by
 refine walk_out (n := S.length) (fun i => ((i : Int), (((S.take i).filter fun s => eqI s.fu c.fc).length : Int))) (fun i hi => ?_) ?_
 ·have hf := List.length_filter_le (fun s : Sb => eqI s.fu c.fc) (S.take i);simp only [List.length_take] at hf;unfold gaI.loop1;simp only;rw [ltI_t (by unfold qat; omega), cond_true, Lh (inB_at hi), qah hi, Lr (by omega), take_next hi, List.filter_append];cases q : eqI S[i].fu c.fc with
  | true => simp only [cond_true]; rw [Lr (by omega)]; simp [q]
  | false => simp [q]
 ·unfold gaI.loop1;simp only;rw [ltI_f (by unfold qat; omega), cond_false, List.take_length]; rfl
theorem upd_set (hu : S.Pairwise fun a b => ltSb a b = true) {i : Nat} (hi : i < S.length) (f : Sb → Sb) : S.set i (f S[i]) = updS S (lnk S[i]) f :=
 set_at hi (p := fun s => Tb.eq (lnk S[i]) (lnk s)) (at_key (up_nodup hu) Tb.eq_iff hi) f
theorem layS_lnk (x : Int) (s : Sb) : lnk (layS x s) = lnk s := rfl
theorem onS_lnk (b : Bool) (s : Sb) : lnk (onS b s) = lnk s := rfl
theorem setI_at {α : Type} (l : List α) (i : Nat) (x : α) : setI l (i : Int) x = l.set i x := by simp [setI]
theorem hasS_none {S : List Sb} {l : Tb} (h : findS S l = none) : hasS S l = false := by unfold hasS; rw [h]; rfl
theorem hasS_some {S : List Sb} {l : Tb} {s : Sb} (h : findS S l = some s) : hasS S l = true := by unfold hasS; rw [h]; rfl
theorem subscribe_d {L : List Pr} {nx : Int} {T : List Tk} (ht : Tbl L nx) (hp : m.Perm (subL S)) (hu : S.Pairwise fun a b => ltSb a b = true) (hl : S.length ≤ 10000) (c : Cm) :
  ∃ m', gC (stA L nx T m) c = some ((subR L T S c).2, stA L nx T m') ∧ m'.Perm (subL (subR L T S c).1) := by
 obtain ⟨g1, g2⟩ := sub_get hp hu (linkC c);unfold gC subR;by_cases h1 : c.fOf = c.fc
 ·rw [eqI_t h1, cond_true, if_pos h1]; exact ⟨m, rfl, hp⟩
 ·rw [eqI_f h1, cond_false, if_neg h1, together_d ht, Le];cases h2 : togL L c.fc c.fOf with
  | false => exact ⟨m, rfl, hp⟩
  | true =>
    rw [notB_f', cond_false, if_neg (by simp)];simp only;rw [(trk_get _ T).2];cases h3 : hasT T ⟨c.fOf, c.ff⟩ with
    | false => exact ⟨m, rfl, hp⟩
    | true =>
      rw [notB_f', cond_false, if_neg (by simp)];have e0 : (⟨c.fc, ⟨c.fOf, c.ff⟩⟩ : Tb) = linkC c := rfl;rw [e0, g1, g2, count_d hp (by omega), need_s];simp only [qax];cases hf : findS S (linkC c) with
      | some s =>
        rw [hasS_some hf];simp only [notB_f', qaf, cond_false, if_true];obtain ⟨hs, he⟩ := findS_mem hf;obtain ⟨i, hi, rfl⟩ := List.mem_iff_getElem.1 hs;refine ⟨_, rfl, ?_⟩;rw [← he, ← upd_set hu hi];exact set_sub hp hu hi (layS c.fo) (layS_lnk _) _ rfl
      | none =>
        rw [hasS_none hf];simp only [notB_t', qaf, cond_true, Bool.false_eq_true, if_false];by_cases h4 : 16 ≤ cnt S c.fc
        ·rw [leI_t (by omega), cond_true, if_pos h4]; exact ⟨m, rfl, hp⟩
        ·rw [leI_f (by omega), cond_false, if_neg h4];refine ⟨_, rfl, ?_⟩
         have hk : linkC c ∉ keysM m := fun q => by
          have := (hasK_iff Tb.eq_iff).2 q;rw [g2, hasS_none hf] at this; cases this
         rw [setK_no Tb.eq_iff hk];refine (List.perm_append_comm).trans ?_;have e : (linkC c, (⟨c.fo, noSub.fw⟩ : Tf)) = entS (newS c) := rfl;simp only [subV];rw [e];exact (hp.cons _).trans (((ins_perm (newS c) S).map entS).symm)
theorem rsubscribe_d {L : List Pr} {nx : Int} {T : List Tk} (hd : Doc L) (hu : S.Pairwise fun a b => ltSb a b = true) (hl : S.length ≤ 10000) (hT : T.length ≤ 100000) (c : Cm) :
  gaI (rfA L nx T S) c = some (rfA L nx T (subR L T S c).1, (subR L T S c).2) := by
 unfold gaI subR;by_cases h1 : c.fOf = c.fc
 ·rw [eqI_t h1, cond_true, if_pos h1]
 ·rw [eqI_f h1, cond_false, if_neg h1, rtogether_d hd, Le];cases h2 : togL L c.fc c.fOf with
  | false => rfl
  | true =>
    rw [notB_f', cond_false, if_neg (by simp)];rcases rfindT (L := L) (nx := nx) (S := S) hT c.fOf c.ff with ⟨h3, h4⟩ | ⟨k, hk, h3, h4⟩
    ·have h5 : hasT T ⟨c.fOf, c.ff⟩ = false := by unfold hasT; rw [h3]; rfl
     rw [h4, Le, ltI_t (by omega), h5]; rfl
    ·have h5 : hasT T ⟨c.fOf, c.ff⟩ = true := by unfold hasT; rw [h3]; rfl
     rw [h4, Le, ltI_f (by omega), h5, cond_false, if_neg (by simp)];have e0 : (⟨c.fc, ⟨c.fOf, c.ff⟩⟩ : Tb) = linkC c := rfl;rcases rfindS (L := L) (nx := nx) (T := T) (S := S) (by omega) c.fc c.fOf c.ff with ⟨h6, h7⟩ | ⟨i, hi, h6, h7⟩
     ·rw [e0] at h6;rw [h7, Le, leI_f (by omega), cond_false, hasS_none h6, rcount (by omega)];simp only [Le, qal, Bool.false_eq_true, if_false];by_cases h8 : 16 ≤ cnt S c.fc
      ·rw [leI_t (by omega), cond_true, if_pos h8]
      ·rw [leI_f (by omega), cond_false, if_neg h8, with_d hl]; rfl
     ·rw [e0] at h6;rw [h7, Le, leI_t (by omega), cond_true, hasS_some h6, Lh (show AppB 0 (qat S) 40 from ⟨by unfold qat; omega, by unfold qat; omega⟩), Lh (inB_at hi)];simp only [if_true];rw [qah hi, setI_at, ← (findS_mem h6).2, ← upd_set hu hi];rfl
def lnkR (S : List Sb) (c : Cm) : List Sb × Int :=
 if hasS S (linkC c) = false then (S, 12) else if c.fk = 6 then (S.filter fun s => !Tb.eq (linkC c) (lnk s), 0) else (updS S (linkC c) (onS c.fOn), 0)
theorem link_d {L : List Pr} {nx : Int} {T : List Tk} (hp : m.Perm (subL S)) (hu : S.Pairwise fun a b => ltSb a b = true) (c : Cm) :
  ∃ m', gH (stA L nx T m) c = some ((lnkR S c).2, stA L nx T m') ∧ m'.Perm (subL (lnkR S c).1) := by
 obtain ⟨g1, g2⟩ := sub_get hp hu (linkC c);unfold gH lnkR;have e0 : (⟨c.fc, ⟨c.fOf, c.ff⟩⟩ : Tb) = linkC c := rfl;simp only [e0, g1, g2];cases hf : findS S (linkC c) with
 | none => rw [hasS_none hf]; exact ⟨m, rfl, hp⟩
 | some s =>
   obtain ⟨hs, he⟩ := findS_mem hf;obtain ⟨i, hi, rfl⟩ := List.mem_iff_getElem.1 hs;rw [hasS_some hf, notB_f', cond_false, if_neg (by simp)];by_cases h6 : c.fk = 6
   ·rw [eqI_t h6, if_pos h6];refine ⟨_, rfl, ?_⟩;rw [← he, filter_at hi (p := fun s => Tb.eq (lnk S[i]) (lnk s)) (at_key (up_nodup hu) Tb.eq_iff hi)];exact del_sub hp hu hi
   ·rw [eqI_f h6, if_neg h6];refine ⟨_, rfl, ?_⟩;rw [← he, ← upd_set hu hi];exact set_sub hp hu hi (onS c.fOn) (onS_lnk _) _ rfl
end
def updT (T : List Tk) (k : Tc) (b : Bool) : List Tk := T.map fun t => if Tc.eq k (keyT t) = true then (⟨t.fc, t.fN, t.fq, b, t.fa⟩ : Tk) else t
def trkR (T : List Tk) (S : List Sb) (c : Cm) : List Tk × List Sb × Int :=
 if hasT T ⟨c.fc, c.ff⟩ = false then (T, S, 9) else if c.fk = 4 then (rmT T ⟨c.fc, c.ff⟩, rmS S ⟨c.fc, c.ff⟩, 0) else (updT T ⟨c.fc, c.ff⟩ c.fOn, S, 0)
theorem upd_key (T : List Tk) (k : Tc) (b : Bool) : (updT T k b).map keyT = T.map keyT := by
 unfold updT;rw [List.map_map];refine List.map_congr_left fun t _ => ?_;simp only [Function.comp];split <;> rfl
theorem upd_all (T : List Tk) (k : Tc) (b : Bool) : allS (updT T k b) = allS T := by
 unfold allS updT;rw [List.flatMap_map];congr 1;funext t;split <;> rfl
theorem upd_src (T : List Tk) (k : Tc) (b : Bool) : srcL (updT T k b) = srcL T := by
 unfold srcL updT;rw [List.flatMap_map];congr 1;funext t;split <;> rfl
theorem trackL_d {L : List Pr} {nx : Int} {T : List Tk} {m : List (Tb × Tf)} {S : List Sb} (hp : m.Perm (subL S)) (hk : (T.map keyT).Nodup) (hn : (allS T).Nodup) (hs : ∀ t ∈ T, t.fa.length ≤ 3) (c : Cm) :
  ∃ m', gA (stA L nx T m) c = some ((trkR T S c).2.2, stA L nx (trkR T S c).1 m') ∧ m'.Perm (subL (trkR T S c).2.1) := by
 unfold gA trkR;simp only;rw [(trk_get _ T).2];cases hf : findT T ⟨c.fc, c.ff⟩ with
 | none =>
   have : hasT T ⟨c.fc, c.ff⟩ = false := by unfold hasT; rw [hf]; rfl
   rw [this]; exact ⟨m, rfl, hp⟩
 | some t =>
   have h1 : hasT T ⟨c.fc, c.ff⟩ = true := by unfold hasT; rw [hf]; rfl
   rw [h1, notB_f', cond_false, if_neg (by simp)];by_cases h4 : c.fk = 4
   ·rw [eqI_t h4, cond_true, if_pos h4, remove_d hk hn hs];exact ⟨keepK (fun l => !(Tc.eq l.fOf ⟨c.fc, c.ff⟩)) m, rfl, keep_sub hp _⟩
   ·rw [eqI_f h4, cond_false, if_neg h4, (trk_get _ T).1, hf];refine ⟨m, ?_, hp⟩;obtain ⟨ht, he⟩ := findT_mem hf;have hm : (⟨c.fc, c.ff⟩ : Tc) ∈ keysM (trkL T) := by rw [keys_trk, ← he]; exact List.mem_map.2 ⟨t, ht, rfl⟩
    rw [setK_map Tc.eq_iff hm (by rw [keys_trk]; exact hk)];simp only [Le, qal];rw [← upd_src T ⟨c.fc, c.ff⟩ c.fOn]
    have : (trkL T).map (fun e => if Tc.eq ⟨c.fc, c.ff⟩ e.1 = true then ((⟨c.fc, c.ff⟩ : Tc), (⟨(trkV (some t)).fq, c.fOn, (trkV (some t)).fa⟩ : Te)) else e) = trkL (updT T ⟨c.fc, c.ff⟩ c.fOn) := by
     unfold trkL updT;rw [List.map_map, List.map_map];refine List.map_congr_left fun u hu => ?_;simp only [Function.comp, entT];by_cases q : Tc.eq ⟨c.fc, c.ff⟩ (keyT u) = true
     ·simp only [q, if_true];have e1 := (Tc.eq_iff _ _).1 q
      have : u = t := by
       have h2 := findT_of hk hu;rw [← e1, hf] at h2;exact (Option.some.inj h2).symm
      subst this;simp only [keyT, trkV];rw [← he]; rfl
     ·simp only [q]; rfl
    rw [this]
theorem rchange_d {L : List Pr} {nx : Int} {T : List Tk} {S : List Sb} (hu : S.Pairwise fun a b => ltSb a b = true) (hk : (T.map keyT).Nodup) (hl : S.length ≤ 10000) (hT : T.length ≤ 100000) (c : Cm) :
  ga9 (rfA L nx T S) c = if c.fk = 6 ∨ c.fk = 8 then some (rfA L nx T (lnkR S c).1, (lnkR S c).2) else some (rfA L nx (trkR T S c).1 (trkR T S c).2.1, (trkR T S c).2.2) := by
 unfold ga9;rw [qaj, eqI_d, eqI_d];by_cases h68 : c.fk = 6 ∨ c.fk = 8
 ·rw [if_pos h68];have : (decide (c.fk = 6) || decide (c.fk = 8)) = true := by simpa using h68
  rw [this, cond_true];unfold lnkR;have e0 : (⟨c.fc, ⟨c.fOf, c.ff⟩⟩ : Tb) = linkC c := rfl;rcases rfindS (L := L) (nx := nx) (T := T) (S := S) (by omega) c.fc c.fOf c.ff with ⟨h6, h7⟩ | ⟨i, hi, h6, h7⟩
  ·rw [e0] at h6;rw [h7, Le, ltI_t (by omega), hasS_none h6]; rfl
  ·rw [e0] at h6;rw [h7, Le, ltI_f (by omega), cond_false, hasS_some h6, if_neg (by simp), Lh (show AppB 0 (qat S) 40 from ⟨by unfold qat; omega, by unfold qat; omega⟩), Lh (inB_at hi)];by_cases h9 : c.fk = 6
   ·rw [decide_eq_true h9, cond_true, if_pos h9];have hc1 : cutL S 0 (i : Int) = S.take i := by simp [cutL]
    have hn : addI .i64 (i : Int) 1 = ((i + 1 : Nat) : Int) := Lr (by omega)
    have hc2 : cutL S ((i + 1 : Nat) : Int) (qat S) = S.drop (i + 1) := by
     unfold cutL qat;rw [Int.toNat_natCast, Int.toNat_natCast];exact List.take_of_length_le (by simp)
    rw [hn, hc1, hc2, Lh (show CutB 0 (i : Int) (qat S) from ⟨by omega, by omega, by unfold qat; omega⟩), Lh (show AppB 0 (qat (S.take i)) 40 from ⟨by unfold qat; simp only [List.length_take]; omega, by unfold qat; simp only [List.length_take]; omega⟩),
     Lh (show CutB ((i + 1 : Nat) : Int) (qat S) (qat S) from ⟨by omega, by unfold qat; omega, by omega⟩), Lh (show AppB (qat (S.take i)) (qat (S.drop (i + 1))) 40 from ⟨by unfold qat; simp only [List.length_take, List.length_drop]; omega, by unfold qat; simp only [List.length_take, List.length_drop]; omega⟩)]
    rw [← (findS_mem h6).2, filter_at hi (p := fun s => Tb.eq (lnk S[i]) (lnk s)) (at_key (up_nodup hu) Tb.eq_iff hi)];rfl
   ·rw [decide_eq_false h9, cond_false, if_neg h9, qah hi, setI_at, ← (findS_mem h6).2, ← upd_set hu hi];rfl
 ·rw [if_neg h68]
  have : (decide (c.fk = 6) || decide (c.fk = 8)) = false := by
   rw [Bool.or_eq_false_iff, decide_eq_false_iff_not, decide_eq_false_iff_not];exact ⟨fun h => h68 (.inl h), fun h => h68 (.inr h)⟩
  rw [this, cond_false];unfold trkR;rcases rfindT (L := L) (nx := nx) (S := S) hT c.fc c.ff with ⟨h3, h4⟩ | ⟨i, hi, h3, h4⟩
  ·have h5 : hasT T ⟨c.fc, c.ff⟩ = false := by unfold hasT; rw [h3]; rfl
   rw [h4, Le, ltI_t (by omega), h5]; rfl
  ·have h5 : hasT T ⟨c.fc, c.ff⟩ = true := by unfold hasT; rw [h3]; rfl
   rw [h4, Le, ltI_f (by omega), h5, cond_false, if_neg (by simp)];by_cases h9 : c.fk = 4
   ·rw [eqI_t h9, cond_true, if_pos h9, rremove_d (by omega) (by omega)]; rfl
   ·rw [eqI_f h9, cond_false, if_neg h9, Lh (show AppB 0 (qat T) 48 from ⟨by unfold qat; omega, by unfold qat; omega⟩), Lh (inB_at hi), qah hi, setI_at];have := set_at hi (p := fun t => Tc.eq (keyT T[i]) (keyT t)) (at_key hk Tc.eq_iff hi) (fun t => (⟨t.fc, t.fN, t.fq, c.fOn, t.fa⟩ : Tk));unfold updT;rw [← (findT_mem h3).2, ← this]
end Go.Proofs

import Derived.Test.YtoiieebljbhpbaaGreatDoorAu
import Derived.Test.YtoiieebljbhpbaaGreatDoorVc
namespace Go.Proofs
open Go.Ab Go.Lib
theorem sources_nd {c : Cm} (hl : c.fa.length ≤ 1000) (h : gv c = some 0) : c.fa.Nodup := by
 unfold gv at h;cases q : qaf (qaf (ltI (qat c.fa) 1) true (ltI 3 (qat c.fa))) true (qaf (ltI 1 (qat c.fa)) (notB c.fq) false) with
 | true => rw [q] at h; cases h
 | false =>
   rw [q, cond_false] at h
   obtain ⟨w1, w2⟩ := walk_any (body := gv.loop1 c) (L := List.range c.fa.length) (fun i => (c.fa.take i).any fun y => eqI (nthI c.fa (i : Int)) y) (fun _ => .out 10) (.go ()) (fun i hi => by
    simp only [List.length_range] at hi;rw [List.getElem_range];unfold gv.loop1;rw [ltI_t (by unfold qat; omega), cond_true, Lr (by omega)];have hlen : (c.fa.take i).length = i := by simp only [List.length_take]; omega
    obtain ⟨v1, v2⟩ := walk_any (body := gv.loop2 c (i : Int)) (L := c.fa.take i) (fun y => eqI (nthI c.fa (i : Int)) y) (fun _ => .out (.out (.out 10))) (.go ()) (fun j hj => by
      rw [hlen] at hj;unfold gv.loop2;rw [ltI_t (by omega), cond_true, Lh (inB_at hi), Lh (inB_at (show j < c.fa.length by omega)), qah (show j < c.fa.length by omega), Lr (by omega), List.getElem_take];cases eqI (nthI c.fa (i : Int)) c.fa[j] <;> rfl) (by
      unfold gv.loop2;rw [ltI_f (by omega), cond_false])
    cases q2 : (c.fa.take i).any fun y => eqI (nthI c.fa (i : Int)) y with
    | false => rw [v1 q2]; rfl
    | true => obtain ⟨k, _, _, _, e⟩ := v2 q2; rw [e]; rfl) (by
    unfold gv.loop1;rw [List.length_range, ltI_f (by unfold qat; omega), cond_false])
   cases q3 : (List.range c.fa.length).any fun i => (c.fa.take i).any fun y => eqI (nthI c.fa (i : Int)) y with
   | true =>
     obtain ⟨k, _, _, _, e⟩ := w2 q3;rw [e] at h; cases h
   | false =>
     unfold List.Nodup;refine List.pairwise_iff_getElem.2 fun a b ha hb hab e => ?_;have h1 := List.any_eq_false.1 q3 b (List.mem_range.2 hb);refine h1 (List.any_eq_true.2 ⟨c.fa[a], ?_, ?_⟩)
     ·exact List.mem_iff_getElem.2 ⟨a, by simp only [List.length_take]; omega, List.getElem_take⟩
     ·rw [qah hb, ← e]; exact eqI_t rfl
theorem noS_ne : neS noS ⟨#[]⟩ = false := by rw [neS_nil]; simp
theorem valid_check {c : Cm} (h : Valid c) (hr : c.fm.size ≤ 1000) (hn : c.fp.size ≤ 1000) : gaF c = if c.fk = 3 then gv c else some 0 := by
 cases h <;> (unfold gaF; simp only at hr hn; simp only [Le, qax, noS_ne, need_s, ga0, gaX, ga5, ga2])
 case join r n g1 g2 =>
  rw [(label_eq hr).2, (label_eq hn).2, g1, g2];simp only [qax];rw [Lh (show Under (notB true) false (Under (eqI 1 1) true ((some true).isSome = true)) from fun _ _ => rfl), if_neg (by decide)];have e1 : qaf (neI 1 1) (qaf (neS r ⟨#[]⟩) true (neS n ⟨#[]⟩)) false = false := rfl;rw [e1, Lh (show Under (eqI 1 1) true ((some true).isSome = true) from fun _ => rfl)];rfl
 case leave p hp => simp only [(label_eq hr).2, qax, need_s, need_ss]; rw [leI_t hp.1, leI_t hp.2]; rfl
 case publish p t v ss hp ht hs => simp only [(label_eq hr).2, qax, need_s, need_ss]; rw [leI_t hp.1, leI_t hp.2, ltI_f (show ¬ t < 0 by omega), ltI_f (show ¬ 3 < t by omega)]; cases gv (Td.mk 3 noS noS p 0 t 0 false v ss) <;> rfl
 case unpublish p t hp ht => simp only [(label_eq hr).2, qax, need_s, need_ss]; rw [leI_t hp.1, leI_t hp.2, ltI_f (show ¬ t < 0 by omega), ltI_f (show ¬ 3 < t by omega)]; rfl
 case subscribe p o t l hp ho ht hl => simp only [(label_eq hr).2, qax, need_s, need_ss]; rw [leI_t hp.1, leI_t hp.2, leI_t ho.1, leI_t ho.2, ltI_f (show ¬ t < 0 by omega), ltI_f (show ¬ 3 < t by omega), ltI_f (show ¬ l < 0 by omega), ltI_f (show ¬ 2 < l by omega)]; rfl
 case unsubscribe p o t hp ho ht => simp only [(label_eq hr).2, qax, need_s, need_ss]; rw [leI_t hp.1, leI_t hp.2, leI_t ho.1, leI_t ho.2, ltI_f (show ¬ t < 0 by omega), ltI_f (show ¬ 3 < t by omega)]; rfl
 case mute p t b hp ht => simp only [(label_eq hr).2, qax, need_s, need_ss]; rw [leI_t hp.1, leI_t hp.2, ltI_f (show ¬ t < 0 by omega), ltI_f (show ¬ 3 < t by omega)]; cases b <;> rfl
 case pause p o t b hp ho ht => simp only [(label_eq hr).2, qax, need_s, need_ss]; rw [leI_t hp.1, leI_t hp.2, leI_t ho.1, leI_t ho.2, ltI_f (show ¬ t < 0 by omega), ltI_f (show ¬ 3 < t by omega)]; cases b <;> rfl
def rmN (T : List Tk) (n : Int) : Nat → List Tk
 | 0 => T
 | i + 1 => rmT (rmN T n i) ⟨n, (i : Int)⟩
def rmSN (S : List Sb) (n : Int) : Nat → List Sb
 | 0 => S
 | i + 1 => rmS (rmSN S n i) ⟨n, (i : Int)⟩
def kpN (m : List (Tb × Tf)) (n : Int) : Nat → List (Tb × Tf)
 | 0 => m
 | i + 1 => keepK (fun l => !(Tc.eq l.fOf ⟨n, (i : Int)⟩)) (kpN m n i)
def lvS (S : List Sb) (n : Int) : List Sb := (rmSN S n 4).filter fun s => !eqI s.fu n
theorem rmN_sub (T : List Tk) (n : Int) : ∀ i, (rmN T n i).Sublist T
 | 0 => .refl _
 | i + 1 => (rm_sub _ _).trans (rmN_sub T n i)
theorem rmSN_sub (S : List Sb) (n : Int) : ∀ i, (rmSN S n i).Sublist S
 | 0 => .refl _
 | i + 1 => List.filter_sublist.trans (rmSN_sub S n i)
theorem lvS_sub (S : List Sb) (n : Int) : (lvS S n).Sublist S := List.filter_sublist.trans (rmSN_sub S n 4)
theorem rmN_mem {T : List Tk} {n : Int} {t : Tk} : ∀ {i : Nat}, t ∈ rmN T n i ↔ t ∈ T ∧ ∀ j : Nat, j < i → keyT t ≠ ⟨n, (j : Int)⟩
 | 0 => by simp [rmN]
 | i + 1 => by
   rw [rmN, rm_mem, rmN_mem (i := i)];constructor
   ·rintro ⟨⟨h1, h2⟩, h3⟩;refine ⟨h1, fun j hj => ?_⟩;rcases Nat.lt_or_ge j i with q | q
    ·exact h2 j q
    ·have : j = i := by omega
     subst this; exact h3
   ·rintro ⟨h1, h2⟩;exact ⟨⟨h1, fun j hj => h2 j (by omega)⟩, h2 i (by omega)⟩
theorem rmS_mem {S : List Sb} {k : Tc} {s : Sb} : s ∈ rmS S k ↔ s ∈ S ∧ (lnk s).fOf ≠ k := by
 unfold rmS ofK;rw [List.mem_filter, Bool.not_eq_true', ← Bool.not_eq_true, Tc.eq_iff]
theorem rmSN_mem {S : List Sb} {n : Int} {s : Sb} : ∀ {i : Nat}, s ∈ rmSN S n i ↔ s ∈ S ∧ ∀ j : Nat, j < i → (lnk s).fOf ≠ ⟨n, (j : Int)⟩
 | 0 => by simp [rmSN]
 | i + 1 => by
   rw [rmSN, rmS_mem, rmSN_mem (i := i)];constructor
   ·rintro ⟨⟨h1, h2⟩, h3⟩;refine ⟨h1, fun j hj => ?_⟩;rcases Nat.lt_or_ge j i with q | q
    ·exact h2 j q
    ·have : j = i := by omega
     subst this; exact h3
   ·rintro ⟨h1, h2⟩;exact ⟨⟨h1, fun j hj => h2 j (by omega)⟩, h2 i (by omega)⟩
theorem lvS_mem {S : List Sb} {n : Int} {s : Sb} : s ∈ lvS S n ↔ s ∈ S ∧ (∀ j : Nat, j < 4 → (lnk s).fOf ≠ ⟨n, (j : Int)⟩) ∧ s.fu ≠ n := by
 unfold lvS;rw [List.mem_filter, rmSN_mem, Bool.not_eq_true', ← Bool.not_eq_true, eqI_ii, and_assoc]
theorem kpN_perm {m : List (Tb × Tf)} {S : List Sb} (h : m.Perm (subL S)) (n : Int) : ∀ i, (kpN m n i).Perm (subL (rmSN S n i))
 | 0 => h
 | i + 1 => keep_sub (kpN_perm h n i) _
theorem all_sub {T T' : List Tk} (h : T'.Sublist T) : (allS T').Sublist (allS T) := by
 unfold allS
 induction h with
 | slnil => exact .refl _
 | cons a _ ih => exact ih.trans (List.sublist_append_right _ _)
 | cons_cons a _ ih => exact (List.Sublist.refl _).append ih
theorem leaveA_d {L : List Pr} {nx : Int} {T : List Tk} {m : List (Tb × Tf)} (ht : Tbl L nx) (hk : (T.map keyT).Nodup) (hn : (allS T).Nodup) (hs : ∀ t ∈ T, t.fa.length ≤ 3) (n : Int) (hf : (findL L n).isSome = true) :
  gq (stA L nx T m) n = some (0, stA (leaveL L n) nx (rmN T n 4) (keepK (fun l => !(eqI l.fu n)) (kpN m n 4))) := by
 unfold gq;simp only;rw [leave_d ht];simp only [Le, leaveE, hf, if_true];rw [neI_f rfl, cond_false]
 have w := walk_out (body := gq.loop1 n) (n := 4) (t := .go (nx, entL (leaveL L n), trkL (rmN T n 4), kpN m n 4, srcL (rmN T n 4))) (fun i => ((i : Int), nx, entL (leaveL L n), trkL (rmN T n i), kpN m n i, srcL (rmN T n i))) (fun i hi => by
  have hsub := rmN_sub T n i;unfold gq.loop1;simp only;rw [ltI_t (by omega), cond_true, remove_d (hk.sublist (hsub.map _)) (hn.sublist (all_sub hsub)) (fun t ht => hs t (hsub.subset ht)), Le, Lr (by omega)];rfl) (by
  unfold gq.loop1;simp only;rw [ltI_f (by omega), cond_false])
 have w : loopF (gq.loop1 n) (0, nx, entL (leaveL L n), trkL T, m, srcL T) = some (.go (nx, entL (leaveL L n), trkL (rmN T n 4), kpN m n 4, srcL (rmN T n 4))) := w;rw [w];rfl
theorem rleaveA_d {L : List Pr} {nx : Int} {T : List Tk} {S : List Sb} (hd : Doc L) (h1 : T.length ≤ 10000) (h2 : S.length ≤ 10000) (n : Int) :
  gaw (rfA L nx T S) n = some (rfA (leaveL L n) nx (rmN T n 4) (lvS S n)) := by
 unfold gaw;simp only;rw [rleave_d hd];simp only [Le]
 have w := walk_out (body := gaw.loop1 n) (n := 4) (t := .go (rfA (leaveL L n) nx (rmN T n 4) (rmSN S n 4))) (fun i => ((i : Int), rfA (leaveL L n) nx (rmN T n i) (rmSN S n i))) (fun i hi => by
  have s1 := (rmN_sub T n i).length_le;have s2 := (rmSN_sub S n i).length_le;unfold gaw.loop1;simp only;rw [ltI_t (by omega), cond_true, rremove_d (by omega) (by omega), Le, Lr (by omega)];rfl) (by
  unfold gaw.loop1;simp only;rw [ltI_f (by omega), cond_false])
 have w : loopF (gaw.loop1 n) (0, rfA (leaveL L n) nx T S) = some (.go (rfA (leaveL L n) nx (rmN T n 4) (rmSN S n 4))) := w;rw [w];simp only [Le, qal];have s2 := (rmSN_sub S n 4).length_le
 have w2 : loopF (gaw.loop2 n (rfA (leaveL L n) nx (rmN T n 4) (rmSN S n 4))) (0, []) = some (.go (lvS S n)) := by
  refine walk_keep (L := rmSN S n 4) (fun s => !eqI s.fu n) (fun i hi out ho => ?_) ?_
  ·unfold gaw.loop2;simp only;rw [ltI_t (by unfold qat; omega), cond_true, Lh (inB_at hi), qah hi, Lr (by omega), Lh (show AppB (qat out) 1 40 from ⟨by unfold qat; omega, by unfold qat; omega⟩), neI_d, eqI_d];by_cases a : (rmSN S n 4)[i].fu = n <;> simp [a, appL]
  ·unfold gaw.loop2;simp only;rw [ltI_f (by unfold qat; omega), cond_false]; rfl
 rw [w2];rfl
structure Acc (n : Nat) (L : List Pr) (nx : Int) (T : List Tk) (S : List Sb) (m : List (Tb × Tf)) : Prop where
 tbl : Tbl L nx
 nn : n ≤ 1000
 tlen : T.length ≤ n
 slen : S.length ≤ n
 tnd : (T.map keyT).Nodup
 snd : (allS T).Nodup
 tss : ∀ t ∈ T, t.fa.length ≤ 3
 up : S.Pairwise fun a b => ltSb a b = true
 prm : m.Perm (subL S)
 own : ∀ t ∈ T, (findL L t.fc).isSome = true ∧ 0 ≤ t.fN ∧ t.fN < 4
 sub : ∀ s ∈ S, hasT T ⟨s.fc, s.fN⟩ = true ∧ togL L s.fu s.fc = true
structure St4 where
 L : List Pr
 nx : Int
 T : List Tk
 S : List Sb
noncomputable def doM (x : St4) (c : Cm) (v : Int) : St4 × Int × Int :=
 if v ≠ 0 then (x, 0, v)
 else if c.fk = 1 then (⟨(joinL x.L x.nx c.fm c.fp).1, (joinL x.L x.nx c.fm c.fp).2.1, x.T, x.S⟩, (joinL x.L x.nx c.fm c.fp).2.2.1, (joinL x.L x.nx c.fm c.fp).2.2.2)
 else if (findL x.L c.fc).isSome = false then (x, 0, 8)
 else if c.fk = 2 then (⟨leaveL x.L c.fc, x.nx, rmN x.T c.fc 4, lvS x.S c.fc⟩, 0, 0)
 else if c.fk = 3 then (⟨x.L, x.nx, (pubR x.T c).1, x.S⟩, 0, (pubR x.T c).2)
 else if c.fk = 5 then (⟨x.L, x.nx, x.T, (subR x.L x.T x.S c).1⟩, 0, (subR x.L x.T x.S c).2)
 else if c.fk = 6 ∨ c.fk = 8 then (⟨x.L, x.nx, x.T, (lnkR x.S c).1⟩, 0, (lnkR x.S c).2)
 else (⟨x.L, x.nx, (trkR x.T x.S c).1, (trkR x.T x.S c).2.1⟩, 0, (trkR x.T x.S c).2.2)
theorem do_d {n : Nat} {x : St4} {m : List (Tb × Tf)} (h : Acc n x.L x.nx x.T x.S m) {c : Cm} (hr : c.fm.size ≤ 1000) (hn : c.fp.size ≤ 1000) (hl : c.fa.length ≤ 1000) {v : Int} (hv : gaF c = some v) :
  ∃ m', gl (stA x.L x.nx x.T m) c = some ((doM x c v).2.1, (doM x c v).2.2, stA (doM x c v).1.L (doM x c v).1.nx (doM x c v).1.T m') ∧ m'.Perm (subL (doM x c v).1.S) := by
 have hv' := hv;rw [← check_eq c hr hn (by omega)] at hv';unfold gl doM;rw [hv', Le];by_cases h0 : v = 0
 ·rw [neI_f h0, cond_false, if_neg (fun q => q h0)];subst h0;by_cases h1 : c.fk = 1
  ·rw [eqI_t h1, cond_true, if_pos h1];simp only;rw [join_d h.tbl hr hn, Le];exact ⟨m, rfl, h.prm⟩
  ·rw [eqI_f h1, cond_false, if_neg h1];simp only;rw [peer_d, Le];cases hf : (findL x.L c.fc).isSome with
   | false => exact ⟨m, rfl, h.prm⟩
   | true =>
     rw [notB_f', cond_false, if_neg (by simp)];by_cases h2 : c.fk = 2
     ·rw [eqI_t h2, cond_true, if_pos h2, leaveA_d h.tbl h.tnd h.snd h.tss _ hf];refine ⟨_, rfl, ?_⟩;exact keep_sub (kpN_perm h.prm _ 4) _
     ·rw [eqI_f h2, cond_false, if_neg h2];by_cases h3 : c.fk = 3
      ·rw [eqI_t h3, cond_true, if_pos h3];obtain ⟨w, hw, hval⟩ := check_some c hr hn (by omega);rw [hv] at hw;cases hw;have hc := valid_check (hval rfl) hr hn;rw [if_pos h3, hv] at hc;rw [publish_d c (sources_nd hl hc.symm) hl];exact ⟨m, rfl, h.prm⟩
      ·rw [eqI_f h3, cond_false, if_neg h3];by_cases h5 : c.fk = 5
       ·rw [eqI_t h5, cond_true, if_pos h5];have hsl := h.slen;have hnn := h.nn;obtain ⟨m', q1, q2⟩ := subscribe_d (T := x.T) h.tbl h.prm h.up (by omega) c;rw [q1];exact ⟨m', rfl, q2⟩
       ·rw [eqI_f h5, cond_false, if_neg h5];by_cases h68 : c.fk = 6 ∨ c.fk = 8
        ·obtain ⟨m', q1, q2⟩ := link_d (L := x.L) (nx := x.nx) (T := x.T) h.prm h.up c;rw [if_pos h68];refine ⟨m', ?_, q2⟩;rcases h68 with h6 | h8
         ·rw [eqI_t h6, cond_true];simp only [Le, qal, cond_true];rw [q1]; rfl
         ·rw [eqI_f (by omega), cond_false];simp only [Le, qal];rw [eqI_t h8, cond_true, q1]; rfl
        ·obtain ⟨m', q1, q2⟩ := trackL_d (L := x.L) (nx := x.nx) h.prm h.tnd h.snd h.tss c;rw [if_neg h68];refine ⟨m', ?_, q2⟩;rw [eqI_f (fun q => h68 (.inl q)), cond_false];simp only [Le, qal];rw [eqI_f (fun q => h68 (.inr q)), cond_false];simp only [Le, qal];rw [q1]; rfl
 ·rw [neI_t h0, cond_true, if_pos h0];exact ⟨m, rfl, h.prm⟩
theorem rdo_d {n : Nat} {x : St4} {m : List (Tb × Tf)} (h : Acc n x.L x.nx x.T x.S m) {c : Cm} (hr : c.fm.size ≤ 1000) (hn : c.fp.size ≤ 1000) (hl : c.fa.length ≤ 1000) {v : Int} (hv : gaF c = some v) :
  gbd (rfA x.L x.nx x.T x.S) c = some (rfA (doM x c v).1.L (doM x c v).1.nx (doM x c v).1.T (doM x c v).1.S, (doM x c v).2.1, (doM x c v).2.2) := by
 have hd := h.tbl.doc;have hsl := h.slen;have htl := h.tlen;have hnn := h.nn;unfold gbd doM;rw [hv, Le];by_cases h0 : v = 0
 ·rw [neI_f h0, cond_false, if_neg (fun q => q h0)];subst h0;by_cases h1 : c.fk = 1
  ·rw [eqI_t h1, cond_true, if_pos h1];simp only;rw [rjoin_d hd h.tbl.num hr hn]; rfl
  ·rw [eqI_f h1, cond_false, if_neg h1];simp only;rw [rfind_d hd.len, Le];cases hf : (findL x.L c.fc).isSome with
   | false => rfl
   | true =>
     rw [notB_f', cond_false, if_neg (by simp)];by_cases h2 : c.fk = 2
     ·rw [eqI_t h2, cond_true, if_pos h2, rleaveA_d hd (by omega) (by omega)]; rfl
     ·rw [eqI_f h2, cond_false, if_neg h2];by_cases h3 : c.fk = 3
      ·rw [eqI_t h3, cond_true, if_pos h3, rpublish_d (by omega) h.tss c hl]; rfl
      ·rw [eqI_f h3, cond_false, if_neg h3];by_cases h5 : c.fk = 5
       ·rw [eqI_t h5, cond_true, if_pos h5, rsubscribe_d hd h.up (by omega) (by omega)]; rfl
       ·rw [eqI_f h5, cond_false, if_neg h5, rchange_d h.up h.tnd (by omega) (by omega)];by_cases h68 : c.fk = 6 ∨ c.fk = 8
        ·rw [if_pos h68, if_pos h68]; rfl
        ·rw [if_neg h68, if_neg h68]; rfl
 ·rw [neI_t h0, cond_true, if_pos h0]
end Go.Proofs

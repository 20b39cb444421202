/- One call on a source: the program's and the document's rule are one. No condition. -/
import Derived.Test.YtbijdlgffebenaaJe
section
namespace Go.Proofs
open Go.Ab

theorem runL_app : ∀ (L : List Thg) (n : Int), (runL n L).1 ++ (runL n L).2.2 = L
  | [], _ => rfl
  | t :: r, n => by
    by_cases h : t.fAt = n
    · rw [runL_t h]
      simp only [List.cons_append, runL_app r (n + 1)]
    · rw [runL_f h]; rfl
theorem skip_app (x : RBf) : (skipS x).2 ++ (skipS x).1.fL = x.fL := by
  unfold skipS
  split
  · rename_i h; simp [h]
  · exact runL_app _ _
theorem while_app (c : RBf → Bool) : ∀ (f : Nat) (x : RBf), (whileS c f x).2 ++ (whileS c f x).1.fL = x.fL
  | 0, x => rfl
  | f + 1, x => by
    unfold whileS
    split
    · simp only
      rw [List.append_assoc, while_app c f, skip_app]
    · rfl
theorem put_cases {x : RBf} (h : Inv x) {t : Thg} (ht : Good t) : (t.fAt < (begS x t).fg ∧ putS x t = (begS x t, [], 13)) ∨ (hasL t.fAt x.fL = true ∧ putS x t = (begS x t, [], 14)) ∨
    (¬ t.fAt < (begS x t).fg ∧ hasL t.fAt x.fL = false ∧ (putS x t).2.2 = 0 ∧ (putS x t).2.1 ++ (putS x t).1.fL = insL t x.fL) := by
  obtain ⟨_, b2, _⟩ := beg_ok h ht
  unfold putS
  split
  · rename_i h1; exact .inl ⟨h1, rfl⟩
  · rename_i h1
    split
    · rename_i h2; exact .inr (.inl ⟨h2, rfl⟩)
    · rename_i h2
      refine .inr (.inr ⟨h1, by simpa using h2, rfl, ?_⟩)
      simp only
      rw [List.append_assoc, while_app]
      have := runL_app (addS (begS x t) t).fL (addS (begS x t) t).fg
      show (runL (addS (begS x t) t).fg (addS (begS x t) t).fL).1 ++ (runL (addS (begS x t) t).fg (addS (begS x t) t).fL).2.2 = _
      rw [this, ← b2]; rfl
theorem Ris.le : ∀ {l : List Thg} {lo hi : Int}, Ris lo l hi → lo ≤ hi
  | [], _, _, h => h
  | t :: r, lo, hi, h => by
    have := Ris.le h.2
    have := h.1
    omega
theorem Ris.lt : ∀ {l : List Thg} {lo hi : Int}, Ris lo l hi → ∀ t ∈ l, t.fAt < hi
  | t :: r, lo, hi, h, u, hu => by
    rcases List.mem_cons.1 hu with rfl | hu
    · have := Ris.le h.2; omega
    · exact Ris.lt h.2 u hu
theorem findP_other {k k' : Int} {p : Pk} (h : k' ≠ k) : ∀ {L : List Came}, findP (L ++ [⟨k, p⟩]) k' = findP L k'
  | [] => by
    show (if k = k' then p else zeroPk) = zeroPk
    rw [if_neg (fun e => h e.symm)]
  | c :: r => by
    show (if c.fAt = k' then c.fP else findP (r ++ [⟨k, p⟩]) k') = (if c.fAt = k' then c.fP else findP r k')
    rw [findP_other h]
theorem findP_new {k : Int} {p : Pk} : ∀ {L : List Came}, (∀ c ∈ L, c.fAt ≠ k) → findP (L ++ [⟨k, p⟩]) k = p
  | [], _ => by
    show (if k = k then p else zeroPk) = p
    rw [if_pos rfl]
  | c :: r, h => by
    show (if c.fAt = k then c.fP else findP (r ++ [⟨k, p⟩]) k) = p
    rw [if_neg (h c (.head _))]
    exact findP_new fun c hc => h c (.tail _ hc)
structure SOk (X : Te) (c : Tp) (B : Int) (k : Nat) : Prop where
  sq : SeqOk X.ff B
  od : Inv X.fo
  mkr : X.fc = refOf c X.fc.fw X.fc.fz X.fc.fe
  hd : Held c X.fc.fw
  cm : ∀ m ∈ X.fL, POk m.fP
  ln : X.fL.length ≤ k
  un : ∀ m ∈ X.fL, X.fo.fd = true ∧ (m.fAt < X.fo.fg ∨ hasL m.fAt X.fo.fL = true)
structure SRel (s : Tf) (X : Te) (c : Tp) : Prop where
  bf : Rel s.fa X.fo
  mkr : s.fc = .mk c ⟨X.fc.fw⟩ X.fc.fz X.fc.fe
  sq : SeqRel s.ff X.ff
  ck : ClkRel s.fh X.fh
  mp : s.fOf.Perm (X.fo.fL.map fun t => (t.fAt, normP (findP X.fL t.fAt)))
  bad : s.fp = X.fp
  keys : s.fm = X.fm

def fsOf (X : Te) : FS := ⟨X.fh, X.fc.fw, X.fc.fz, X.fc.fe, X.fm⟩
noncomputable def putM (c : Tp) (X : Te) (p : Pk) (now : Int) : Te × List (List Un) × Int :=
  let q := seqM X.ff p.ff
  if q.2.2 = false then (.mk q.1 X.fh X.fo X.fc X.fL (addI .i64 X.fp 1) X.fm, [], 13)
  else
    let b := putS X.fo ⟨q.2.1, ⟨#[]⟩, now⟩
    if b.2.2 ≠ 0 then (.mk q.1 X.fh b.1 X.fc X.fL (addI .i64 X.fp 1) X.fm, [], b.2.2)
    else
      let z := framesM c (X.fL ++ [⟨q.2.1, p⟩]) b.2.1 (fsOf X)
      (srcF (.mk q.1 X.fh b.1 X.fc (X.fL ++ [⟨q.2.1, p⟩]) X.fp X.fm) c z.1, z.2, 0)
noncomputable def tickM (c : Tp) (X : Te) (now : Int) : Te × List (List Un) :=
  let b := tickS X.fo now
  let z := framesM c X.fL b.2 (fsOf X)
  (srcF (.mk X.ff X.fh b.1 X.fc X.fL X.fp X.fm) c z.1, z.2)

theorem pend_good {x : RBf} (h : Ok x) : ∀ t ∈ x.fL, Good t := fun t ht => by
  have h1 := h.up.mem t ht
  have h0 := h.nn
  obtain ⟨h2, h3, h4⟩ := h.at_ t ht
  exact ⟨by omega, h2, h3, h4⟩
theorem bd_of {x : RBf} (h : Ok x) : Bd 1000000000000 x := ⟨h.nb, fun t ht => by have := (h.at_ t ht).1; omega⟩

theorem keys_of {m : List (Int × Pk)} {D : List Thg} {F : Thg → Pk} (h : m.Perm (D.map fun t => (t.fAt, F t))) : (keysM m).Perm (D.map (·.fAt)) := by
  have := keysM_perm h
  unfold keysM at this
  rw [List.map_map] at this
  exact this
theorem hasM_has {m : List (Int × Pk)} {D : List Thg} {F : Thg → Pk} (h : m.Perm (D.map fun t => (t.fAt, F t))) (k : Int) : hasM eqI k m = hasL k D := by
  have hp := keys_of h
  cases hh : hasL k D with
  | true =>
    obtain ⟨u, hu, e⟩ := hasL_t.1 hh
    exact hasM_t (hp.mem_iff.2 (List.mem_map.2 ⟨u, hu, e⟩))
  | false =>
    refine hasM_f fun hk => ?_
    obtain ⟨u, hu, e⟩ := List.mem_map.1 (hp.mem_iff.1 hk)
    rw [hasL_t.2 ⟨u, hu, e⟩] at hh
    cases hh

theorem src_eta {X : Te} {c : Tp} (h : X.fc = refOf c X.fc.fw X.fc.fz X.fc.fe) (q : Sq) (b : RBf) (L : List Came) :
    Te.mk q X.fh b X.fc L X.fp X.fm = srcF (.mk q X.fh b X.fc L X.fp X.fm) c (fsOf X) := by
  show Te.mk q X.fh b X.fc L X.fp X.fm = Te.mk q X.fh b (refOf c X.fc.fw X.fc.fz X.fc.fe) L X.fp X.fm
  rw [← h]

theorem rput_src {X : Te} {c : Tp} {B : Int} {k : Nat} (h : SOk X c B k) {p : Pk} (hp : POk p) {now : Int} (hn0 : 0 ≤ now) (hn1 : now ≤ 1000000000000) (hB0 : 2000000 ≤ B) (hB : B ≤ 100000000000) (hk : k ≤ 100000) :
    gaN X p now = some (putM c X p now) := by
  have cs : cvtI .i64 p.ff = p.ff := by
    have := hp.s0; have := hp.s1
    exact Lu (by omega) (by omega)
  obtain ⟨_, q2, _⟩ := seqM_ok h.sq hp.s0 hp.s1 hB0
  unfold gaN putM
  rw [cs, rseq h.sq hp.s0 hp.s1 (by omega), Lb, notB_d]
  simp only
  cases hq : (seqM X.ff p.ff).2.2 with
  | false => simp
  | true =>
    obtain ⟨a0, a1⟩ := q2 hq
    have hg : Good ⟨(seqM X.ff p.ff).2.1, ⟨#[]⟩, now⟩ := ⟨a0, by simp only; omega, hn0, hn1⟩
    rw [show (!true) = false from rfl, cond_false, rput h.od hg, Lb]
    simp only [Bool.true_eq_false, if_false]
    rw [neI_d]
    by_cases hb : (putS X.fo ⟨(seqM X.ff p.ff).2.1, ⟨#[]⟩, now⟩).2.2 = 0
    · have hl := h.ln
      rw [decide_eq_false (by omega), cond_false, if_neg (by omega), Le (show AppB 0 (lenL X.fL) 96 from ⟨by rw [lenL_def]; omega, by rw [lenL_def]; omega⟩), Le (show AppB (lenL X.fL) 1 96 from ⟨by rw [lenL_def]; omega, by rw [lenL_def]; omega⟩)]
      have hap : appL (appL [] X.fL) [(Tx.mk (seqM X.ff p.ff).2.1 p)] = X.fL ++ [⟨(seqM X.ff p.ff).2.1, p⟩] := rfl
      rw [hap, src_eta h.mkr]
      have hlen := put_len h.od hg
      obtain ⟨c1, c2⟩ | ⟨c1, c2⟩ | ⟨c1, c2, c3, c4⟩ := put_cases h.od hg
      · rw [c2] at hb; exact absurd hb (by simp)
      · rw [c2] at hb; exact absurd hb (by simp)
      have hgood : ∀ t ∈ (putS X.fo ⟨(seqM X.ff p.ff).2.1, ⟨#[]⟩, now⟩).2.1, Good t := fun t ht => by
        have : t ∈ insL ⟨(seqM X.ff p.ff).2.1, ⟨#[]⟩, now⟩ X.fo.fL := by rw [← c4]; exact List.mem_append_left _ ht
        rcases List.mem_cons.1 ((insL_perm _ _).mem_iff.1 this) with rfl | ht'
        · exact hg
        · exact pend_good h.od.toOk t ht'
      have hlen2 : (putS X.fo ⟨(seqM X.ff p.ff).2.1, ⟨#[]⟩, now⟩).2.1.length ≤ 1000000 := by
        have e := congrArg List.length c4
        rw [List.length_append, insL_len] at e
        have hml := h.od.ml
        have hm1 := h.od.m1
        rw [lenL_def] at hml
        omega
      have := rframes (.mk (seqM X.ff p.ff).1 X.fh (putS X.fo ⟨(seqM X.ff p.ff).2.1, ⟨#[]⟩, now⟩).1 X.fc (X.fL ++ [⟨(seqM X.ff p.ff).2.1, p⟩]) X.fp X.fm) c
        (fun m hm => by
          rcases List.mem_append.1 hm with hm | hm
          · exact h.cm m hm
          · rw [List.mem_singleton.1 hm]; exact hp)
        (by simp; omega) (putS X.fo ⟨(seqM X.ff p.ff).2.1, ⟨#[]⟩, now⟩).2.1 hlen2 hgood _ 0 rfl (Nat.zero_le _) (fsOf X) [] h.hd (Nat.zero_le _)
      unfold gap
      rw [List.drop_zero, List.nil_append] at this
      have h0 : ((0 : Nat) : Int) = 0 := rfl
      rw [h0] at this
      rw [this]
      rfl
    · rw [decide_eq_true hb, cond_true, if_pos hb]

theorem rtick_src {X : Te} {c : Tp} {B : Int} {k : Nat} (h : SOk X c B k) {now : Int} (hn0 : 0 ≤ now) (hn1 : now ≤ 1000000000000) (hk : k ≤ 100000) :
    ∃ o' l' b, gaH X now = some (.mk (tickM c X now).1.ff (tickM c X now).1.fh (tickM c X now).1.fo (refOf c o' (tickM c X now).1.fc.fz l') (tickM c X now).1.fL (tickM c X now).1.fp (tickM c X now).1.fm, (tickM c X now).2) ∧
      gP (.mk c ⟨(tickM c X now).1.fc.fw⟩ (tickM c X now).1.fc.fz (tickM c X now).1.fc.fe) now = some (b, .mk c ⟨o'⟩ (tickM c X now).1.fc.fz l') ∧ (o' = (tickM c X now).1.fc.fw ∨ o' = []) := by
  have hap := while_app (cTick now) X.fo.fL.length X.fo
  have hmem : ∀ t ∈ (tickS X.fo now).2, Good t := fun t ht => pend_good h.od.toOk t (by rw [← hap]; exact List.mem_append_left _ ht)
  have hlen : (tickS X.fo now).2.length ≤ 1000000 := by
    have e := congrArg List.length hap
    rw [List.length_append] at e
    have := h.od.len
    show (whileS (cTick now) X.fo.fL.length X.fo).2.length ≤ _
    omega
  have hl := h.ln
  have := rframes (.mk X.ff X.fh (tickS X.fo now).1 X.fc X.fL X.fp X.fm) c h.cm (by simp only; omega) (tickS X.fo now).2 hlen hmem _ 0 rfl (Nat.zero_le _) (fsOf X) [] h.hd (Nat.zero_le _)
  rw [List.drop_zero, List.nil_append] at this
  have h0 : ((0 : Nat) : Int) = 0 := rfl
  rw [h0] at this
  obtain ⟨o', l', b, t1, t2, t3⟩ := tick_both c (tickM c X now).1.fc.fw (tickM c X now).1.fc.fz (tickM c X now).1.fc.fe now
  refine ⟨o', l', b, ?_, t1, t3⟩
  unfold gaH gap
  rw [rtick h.od hn0 hn1, Lb]
  simp only
  rw [src_eta h.mkr, this, Lb, flC_go, Lb]
  have t2' : gaI (srcF (.mk X.ff X.fh (tickS X.fo now).1 X.fc X.fL X.fp X.fm) c (framesM c X.fL (tickS X.fo now).2 (fsOf X)).1).fc now = some (refOf c o' (tickM c X now).1.fc.fz l', b) := t2
  simp only at t2' ⊢
  rw [t2', Lb]
  rfl
end Go.Proofs
end
section
namespace Go.Proofs
open Go.Ab

theorem ins_up {x : RBf} (h : Inv x) {t : Thg} (_ht : Good t) (_h1 : ¬ t.fAt < (begS x t).fg) (h2 : hasL t.fAt x.fL = false) : ((insL t x.fL).map (·.fAt)).Nodup := by
  have hn := h.toOk.up.nodup
  have hp := (insL_perm t x.fL).map (fun u : Thg => u.fAt)
  rw [hp.nodup_iff, List.map_cons, List.nodup_cons]
  refine ⟨fun hm => ?_, hn⟩
  obtain ⟨u, hu, e⟩ := List.mem_map.1 hm
  rw [hasL_t.2 ⟨u, hu, e⟩] at h2
  cases h2

theorem new_fresh {X : Te} {c : Tp} {B : Int} {k : Nat} (h : SOk X c B k) {t : Thg} (ht : Good t) (h1 : ¬ t.fAt < (begS X.fo t).fg) (h2 : hasL t.fAt X.fo.fL = false) : ∀ m ∈ X.fL, m.fAt ≠ t.fAt := by
  intro m hm e
  obtain ⟨_, _, _, _, _, b6⟩ := beg_ok h.od ht
  obtain ⟨u1, u2⟩ := h.un m hm
  rcases u2 with u2 | u2
  · omega
  · rw [e, h2] at u2; cases u2

theorem oput_src {s : Tf} {X : Te} {c : Tp} {B : Int} {k : Nat} (hr : SRel s X c) (h : SOk X c B k) {p : Pk} (hp : POk p) {now : Int} (hn0 : 0 ≤ now) (hn1 : now ≤ 1000000000000) (hB0 : 2000000 ≤ B) (hB : B ≤ 100000000000) :
    ∃ s', gl s p now = some ((putM c X p now).2.1.map Tl.mk, (putM c X p now).2.2, s') ∧ SRel s' (putM c X p now).1 c := by
  obtain ⟨q1, q2, _⟩ := seqM_ok h.sq hp.s0 hp.s1 hB0
  obtain ⟨c1, o1, o2⟩ := oseq hr.sq h.sq hp.s0 hp.s1 (by omega)
  unfold gl putM
  rw [o1, Lb, notB_d]
  simp only
  cases hq : (seqM X.ff p.ff).2.2 with
  | false =>
    simp only [Bool.not_false, cond_true, if_true]
    exact ⟨_, rfl, ⟨hr.bf, hr.mkr, o2, hr.ck, hr.mp, by simp only; rw [hr.bad], hr.keys⟩⟩
  | true =>
    obtain ⟨a0, a1⟩ := q2 hq
    generalize hat : (seqM X.ff p.ff).2.1 = at_ at a0 a1 ⊢
    have hg : Good ⟨at_, ⟨#[]⟩, now⟩ := ⟨a0, by simp only; omega, hn0, hn1⟩
    simp only [Bool.not_true, cond_false, Bool.true_eq_false, if_false]
    have hv1 : (bif eqS p.fF ⟨#[]⟩ then (some (.go (Tb.mk false p.fab p.ff p.fQ p.fac p.faa p.fae p.fY p.fad p.fF p.fZ)) : Option (Fl Pk (List Tl × Int × Tf))) else some (.go p)) = some (.go (normP p)) := by
      rw [eqS_empty]
      unfold normP
      by_cases hl : lenS p.fF < 1
      · rw [decide_eq_true hl, cond_true, if_pos hl]
      · rw [decide_eq_false hl, cond_false, if_neg hl]
    rw [hv1, Lb, flC_go, hasM_has hr.mp at_, notB_d]
    obtain ⟨b', ob1, ob2⟩ := oput hr.bf h.od hg
    have hnd := h.od.toOk.up.nodup
    rcases put_cases h.od hg with ⟨p1, p2⟩ | ⟨p1, p2⟩ | ⟨p1, p2, p3, p4⟩
    · -- too old
      have hno : hasL at_ X.fo.fL = false := by
        cases hh : hasL at_ X.fo.fL with
        | false => rfl
        | true =>
          obtain ⟨u, hu, e⟩ := hasL_t.1 hh
          have := h.od.toOk.up.mem u hu
          have hbg : X.fo.fd = true := by
            cases hb : X.fo.fd with
            | true => rfl
            | false => rw [(h.od.bg hb).1] at hu; cases hu
          have : (begS X.fo ⟨at_, ⟨#[]⟩, now⟩).fg = X.fo.fg := by unfold begS; rw [if_pos hbg]
          simp only at p1
          omega
      have hkk : at_ ∉ keysM s.fOf := fun hk => by
        rw [← hasM_has hr.mp at_, hasM_t hk] at hno
        cases hno
      rw [hno, show (!false) = true from rfl, cond_true, Lb, flC_go, ob1, Lb, p2]
      have ob2' := ob2
      rw [p2] at ob2'
      simp only
      rw [show neI 13 0 = true from rfl, cond_true, show eqI 13 13 = true from rfl, cond_true, Lb, flC_go, if_pos (by decide)]
      refine ⟨_, rfl, ⟨ob2', hr.mkr, o2, hr.ck, ?_, by simp only; rw [hr.bad], hr.keys⟩⟩
      have hb2 := (beg_ok h.od hg).2.1
      simp only
      rw [hb2, setM_no hkk]
      have hk2 : (keysM s.fOf).Nodup := (keys_of hr.mp).nodup_iff.2 hnd
      have hnd2 : (keysM (s.fOf ++ [(at_, normP p)])).Nodup := by
        unfold keysM
        rw [List.map_append, List.nodup_append]
        refine ⟨hk2, by simp, fun a ha b hb e => ?_⟩
        simp only [List.map_cons, List.map_nil, List.mem_singleton] at hb
        subst e; subst hb
        exact hkk ha
      exact (delM_of hnd2 List.perm_append_comm).trans hr.mp
    · -- twice
      simp only at p1
      rw [p1, show (!true) = false from rfl, cond_false, Lb, flC_go, ob1, Lb, p2]
      have ob2' := ob2
      rw [p2] at ob2'
      simp only
      rw [show neI 14 0 = true from rfl, cond_true, show eqI 14 13 = false from rfl, cond_false, Lb, flC_go, if_pos (by decide)]
      refine ⟨_, rfl, ⟨ob2', hr.mkr, o2, hr.ck, ?_, by simp only; rw [hr.bad], hr.keys⟩⟩
      have hb2 := (beg_ok h.od hg).2.1
      simp only
      rw [hb2]
      exact hr.mp
    · -- taken
      simp only at p2
      have hkk : at_ ∉ keysM s.fOf := fun hk => by
        have := hasM_has hr.mp at_
        rw [hasM_t hk, p2] at this
        cases this
      rw [p2, show (!false) = true from rfl, cond_true, Lb, flC_go, ob1, Lb]
      simp only
      rw [p3, show neI 0 0 = false from rfl, cond_false, if_neg (by simp), setM_no hkk]
      have hfr := new_fresh h hg p1 p2
      have hL : ∀ m ∈ X.fL ++ [(⟨at_, p⟩ : Came)], POk m.fP := fun m hm => by
        rcases List.mem_append.1 hm with hm | hm
        · exact h.cm m hm
        · rw [List.mem_singleton.1 hm]; exact hp
      have hperm : (s.fOf ++ [(at_, normP p)]).Perm (((putS X.fo ⟨at_, ⟨#[]⟩, now⟩).2.1 ++ (putS X.fo ⟨at_, ⟨#[]⟩, now⟩).1.fL).map fun t => (t.fAt, normP (findP (X.fL ++ [⟨at_, p⟩]) t.fAt))) := by
        rw [p4]
        refine List.Perm.trans ?_ ((insL_perm _ _).map _).symm
        rw [List.map_cons, findP_new hfr]
        refine List.perm_append_comm.trans (List.Perm.cons _ (hr.mp.trans (List.Perm.of_eq (List.map_congr_left fun u hu => ?_))))
        have : u.fAt ≠ at_ := fun e => by
          rw [hasL_t.2 ⟨u, hu, e⟩] at p2
          cases p2
        rw [findP_other this]
      have hgood : ∀ t ∈ (putS X.fo ⟨at_, ⟨#[]⟩, now⟩).2.1, Good t := fun t ht => by
        have : t ∈ insL ⟨at_, ⟨#[]⟩, now⟩ X.fo.fL := by rw [← p4]; exact List.mem_append_left _ ht
        rcases List.mem_cons.1 ((insL_perm _ _).mem_iff.1 this) with rfl | ht'
        · exact hg
        · exact pend_good h.od.toOk t ht'
      have hlen2 : (putS X.fo ⟨at_, ⟨#[]⟩, now⟩).2.1.length ≤ 1000000 := by
        have e := congrArg List.length p4
        rw [List.length_append, insL_len] at e
        have hml := h.od.ml
        have hm1 := h.od.m1
        rw [lenL_def] at hml
        omega
      have hnd3 : ((((putS X.fo ⟨at_, ⟨#[]⟩, now⟩).2.1.drop 0) ++ (putS X.fo ⟨at_, ⟨#[]⟩, now⟩).1.fL).map (·.fAt)).Nodup := by
        rw [List.drop_zero, p4]
        exact ins_up h.od hg p1 p2
      obtain ⟨cl', m', e1, e2, e3⟩ := oframes c (X.fL ++ [⟨at_, p⟩]) hL (putS X.fo ⟨at_, ⟨#[]⟩, now⟩).2.1 (putS X.fo ⟨at_, ⟨#[]⟩, now⟩).1.fL hlen2 hgood c1 s.fp b'.fb b'.fd b'.fg b'.fe b'.fOf _ 0 rfl (Nat.zero_le _) hnd3
        (fsOf X) [] s.fh (s.fOf ++ [(at_, normP p)]) h.hd hr.ck (by rw [List.drop_zero]; exact hperm) (Nat.le_refl _)
      rw [List.drop_zero, List.nil_append] at e1
      rw [List.drop_zero] at e2
      have h0 : ((0 : Nat) : Int) = 0 := rfl
      rw [h0] at e1
      have hmk : s.fc = .mk c ⟨(fsOf X).o⟩ (fsOf X).w (fsOf X).l := hr.mkr
      have hks : s.fm = (fsOf X).keys := hr.keys
      unfold ge
      simp only
      rw [hmk, hks, e1, Lb, flC_go, Lb]
      refine ⟨_, rfl, ⟨?_, rfl, o2, e2, e3, hr.bad, rfl⟩⟩
      exact ob2

theorem put_sok {X : Te} {c : Tp} {B : Int} {k : Nat} (h : SOk X c B k) {p : Pk} (hp : POk p) {now : Int} (hn0 : 0 ≤ now) (hn1 : now ≤ 1000000000000) (hB0 : 2000000 ≤ B) (hB : B ≤ 100000000000) :
    SOk (putM c X p now).1 c (B + 200000) (k + 1) := by
  obtain ⟨q1, q2, _⟩ := seqM_ok h.sq hp.s0 hp.s1 hB0
  have hln := h.ln
  unfold putM
  simp only
  cases hq : (seqM X.ff p.ff).2.2 with
  | false =>
    simp only [if_true]
    exact ⟨q1, h.od, h.mkr, h.hd, h.cm, by simp only; omega, h.un⟩
  | true =>
    obtain ⟨a0, a1⟩ := q2 hq
    generalize hat : (seqM X.ff p.ff).2.1 = at_ at a0 a1 ⊢
    have hg : Good ⟨at_, ⟨#[]⟩, now⟩ := ⟨a0, by simp only; omega, hn0, hn1⟩
    simp only [Bool.true_eq_false, if_false]
    obtain ⟨i1, i2, i3, i4⟩ := put_inv h.od hg
    obtain ⟨b1, b2, b3, b4, b5, b6⟩ := beg_ok h.od hg
    have unb : ∀ m ∈ X.fL, (begS X.fo ⟨at_, ⟨#[]⟩, now⟩).fd = true ∧ (m.fAt < (begS X.fo ⟨at_, ⟨#[]⟩, now⟩).fg ∨ hasL m.fAt (begS X.fo ⟨at_, ⟨#[]⟩, now⟩).fL = true) := fun m hm => by
      obtain ⟨u1, u2⟩ := h.un m hm
      refine ⟨b4, ?_⟩
      rw [b2]
      rcases u2 with u2 | u2
      · left; omega
      · exact .inr u2
    rcases put_cases h.od hg with ⟨p1, p2⟩ | ⟨p1, p2⟩ | ⟨p1, p2, p3, p4⟩
    · rw [if_pos (by rw [p2]; simp)]
      refine ⟨q1, i1, h.mkr, h.hd, h.cm, by simp only; omega, ?_⟩
      simp only
      rw [p2]; exact unb
    · rw [if_pos (by rw [p2]; simp)]
      refine ⟨q1, i1, h.mkr, h.hd, h.cm, by simp only; omega, ?_⟩
      simp only
      rw [p2]; exact unb
    · rw [if_neg (by rw [p3]; simp)]
      have hL : ∀ m ∈ X.fL ++ [(⟨at_, p⟩ : Came)], POk m.fP := fun m hm => by
        rcases List.mem_append.1 hm with hm | hm
        · exact h.cm m hm
        · rw [List.mem_singleton.1 hm]; exact hp
      have hgood : ∀ t ∈ (putS X.fo ⟨at_, ⟨#[]⟩, now⟩).2.1, Good t := fun t ht => by
        have : t ∈ insL ⟨at_, ⟨#[]⟩, now⟩ X.fo.fL := by rw [← p4]; exact List.mem_append_left _ ht
        rcases List.mem_cons.1 ((insL_perm _ _).mem_iff.1 this) with rfl | ht'
        · exact hg
        · exact pend_good h.od.toOk t ht'
      obtain ⟨_, r2⟩ := put_bd h.od hg (bd_of h.od.toOk) (by simp only; omega)
      have split : ∀ k : Int, hasL k (insL ⟨at_, ⟨#[]⟩, now⟩ X.fo.fL) = true → k < (putS X.fo ⟨at_, ⟨#[]⟩, now⟩).1.fg ∨ hasL k (putS X.fo ⟨at_, ⟨#[]⟩, now⟩).1.fL = true := fun k hk => by
        obtain ⟨u, hu, e⟩ := hasL_t.1 hk
        rw [← p4] at hu
        rcases List.mem_append.1 hu with hu | hu
        · have := r2.lt u hu; left; omega
        · exact .inr (hasL_t.2 ⟨u, hu, e⟩)
      refine ⟨q1, i1, rfl, frames_held hL _ _ hgood h.hd, hL, by simp [srcF]; omega, fun m hm => ⟨i2, ?_⟩⟩
      have hm' : m ∈ X.fL ++ [(⟨at_, p⟩ : Came)] := hm
      rcases List.mem_append.1 hm' with hm | hm
      · obtain ⟨u1, u2⟩ := h.un m hm
        rcases u2 with u2 | u2
        · have := r2.le; left; show m.fAt < (putS X.fo ⟨at_, ⟨#[]⟩, now⟩).1.fg; omega
        · refine split _ (hasL_t.2 ?_)
          obtain ⟨u, hu, e⟩ := hasL_t.1 u2
          exact ⟨u, (insL_perm _ _).mem_iff.2 (.tail _ hu), e⟩
      · rw [List.mem_singleton.1 hm]
        exact split _ (hasL_t.2 ⟨_, (insL_perm _ _).mem_iff.2 (.head _), rfl⟩)
end Go.Proofs
end

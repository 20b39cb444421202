/- One call on a source: the program's and the document's rule are one. No condition. -/
import Derived.Test.YtbijdlgffebenaaGreatJe
namespace Go.Proofs
open Go.Ab

theorem runL_app : ∀ (L : List Thg) (n : Int), (runL n L).1 ++ (runL n L).2.2 = L
  | [], _ => rfl
  | t :: r, n => by
    by_cases h : t.fAt = n
    · rw [runL_t h]
      simp only [List.cons_append, runL_app r (n + 1)]
    · rw [runL_f h]; rfl
theorem skip_app (x : RBf) : (skipS x).2 ++ (skipS x).1.fL = x.fL := by
  unfold skipS
  split
  · rename_i h; simp [h]
  · exact runL_app _ _
theorem while_app (c : RBf → Bool) : ∀ (f : Nat) (x : RBf), (whileS c f x).2 ++ (whileS c f x).1.fL = x.fL
  | 0, x => rfl
  | f + 1, x => by
    unfold whileS
    split
    · simp only
      rw [List.append_assoc, while_app c f, skip_app]
    · rfl
theorem put_cases {x : RBf} (h : Inv x) {t : Thg} (ht : Good t) : (t.fAt < (begS x t).fg ∧ putS x t = (begS x t, [], 13)) ∨ (hasL t.fAt x.fL = true ∧ putS x t = (begS x t, [], 14)) ∨
    (¬ t.fAt < (begS x t).fg ∧ hasL t.fAt x.fL = false ∧ (putS x t).2.2 = 0 ∧ (putS x t).2.1 ++ (putS x t).1.fL = insL t x.fL) := by
  obtain ⟨_, b2, _⟩ := beg_ok h ht
  unfold putS
  split
  · rename_i h1; exact .inl ⟨h1, rfl⟩
  · rename_i h1
    split
    · rename_i h2; exact .inr (.inl ⟨h2, rfl⟩)
    · rename_i h2
      refine .inr (.inr ⟨h1, by simpa using h2, rfl, ?_⟩)
      simp only
      rw [List.append_assoc, while_app]
      have := runL_app (addS (begS x t) t).fL (addS (begS x t) t).fg
      show (runL (addS (begS x t) t).fg (addS (begS x t) t).fL).1 ++ (runL (addS (begS x t) t).fg (addS (begS x t) t).fL).2.2 = _
      rw [this, ← b2]; rfl
theorem Ris.le : ∀ {l : List Thg} {lo hi : Int}, Ris lo l hi → lo ≤ hi
  | [], _, _, h => h
  | t :: r, lo, hi, h => by
    have := Ris.le h.2
    have := h.1
    omega
theorem Ris.lt : ∀ {l : List Thg} {lo hi : Int}, Ris lo l hi → ∀ t ∈ l, t.fAt < hi
  | t :: r, lo, hi, h, u, hu => by
    rcases List.mem_cons.1 hu with rfl | hu
    · have := Ris.le h.2; omega
    · exact Ris.lt h.2 u hu
theorem findP_other {k k' : Int} {p : Pk} (h : k' ≠ k) : ∀ {L : List Came}, findP (L ++ [⟨k, p⟩]) k' = findP L k'
  | [] => by
    show (if k = k' then p else zeroPk) = zeroPk
    rw [if_neg (fun e => h e.symm)]
  | c :: r => by
    show (if c.fAt = k' then c.fP else findP (r ++ [⟨k, p⟩]) k') = (if c.fAt = k' then c.fP else findP r k')
    rw [findP_other h]
theorem findP_new {k : Int} {p : Pk} : ∀ {L : List Came}, (∀ c ∈ L, c.fAt ≠ k) → findP (L ++ [⟨k, p⟩]) k = p
  | [], _ => by
    show (if k = k then p else zeroPk) = p
    rw [if_pos rfl]
  | c :: r, h => by
    show (if c.fAt = k then c.fP else findP (r ++ [⟨k, p⟩]) k) = p
    rw [if_neg (h c (.head _))]
    exact findP_new fun c hc => h c (.tail _ hc)
structure SOk (X : Td) (c : Tu) (B : Int) (k : Nat) : Prop where
  sq : SeqOk X.ff B
  od : Inv X.fm
  mkr : X.fc = refOf c X.fc.fv X.fc.fy X.fc.fe
  hd : Held c X.fc.fv
  cm : ∀ m ∈ X.fL, POk m.fP
  ln : X.fL.length ≤ k
  un : ∀ m ∈ X.fL, X.fm.fd = true ∧ (m.fAt < X.fm.fg ∨ hasL m.fAt X.fm.fL = true)
structure SRel (s : Tf) (X : Td) (c : Tu) : Prop where
  bf : Rel s.fa X.fm
  mkr : s.fc = .mk c ⟨X.fc.fv⟩ X.fc.fy X.fc.fe
  sq : SeqRel s.ff X.ff
  ck : ClkRel s.fh X.fh
  mp : s.fOf.Perm (X.fm.fL.map fun t => (t.fAt, normP (findP X.fL t.fAt)))
  bad : s.fq = X.fq
  keys : s.fo = X.fo

def fsOf (X : Td) : FS := ⟨X.fh, X.fc.fv, X.fc.fy, X.fc.fe, X.fo⟩
noncomputable def putM (c : Tu) (X : Td) (p : Pk) (now : Int) : Td × List (List Un) × Int :=
  let q := seqM X.ff p.ff
  if q.2.2 = false then (.mk q.1 X.fh X.fm X.fc X.fL (addI .i64 X.fq 1) X.fo, [], 13)
  else
    let b := putS X.fm ⟨q.2.1, ⟨#[]⟩, now⟩
    if b.2.2 ≠ 0 then (.mk q.1 X.fh b.1 X.fc X.fL (addI .i64 X.fq 1) X.fo, [], b.2.2)
    else
      let z := framesM c (X.fL ++ [⟨q.2.1, p⟩]) b.2.1 (fsOf X)
      (srcF (.mk q.1 X.fh b.1 X.fc (X.fL ++ [⟨q.2.1, p⟩]) X.fq X.fo) c z.1, z.2, 0)
noncomputable def tickM (c : Tu) (X : Td) (now : Int) : Td × List (List Un) :=
  let b := tickS X.fm now
  let z := framesM c X.fL b.2 (fsOf X)
  (srcF (.mk X.ff X.fh b.1 X.fc X.fL X.fq X.fo) c z.1, z.2)

theorem pend_good {x : RBf} (h : Ok x) : ∀ t ∈ x.fL, Good t := fun t ht => by
  have h1 := h.up.mem t ht
  have h0 := h.nn
  obtain ⟨h2, h3, h4⟩ := h.at_ t ht
  exact ⟨by omega, h2, h3, h4⟩
theorem bd_of {x : RBf} (h : Ok x) : Bd 1000000000000 x := ⟨h.nb, fun t ht => by have := (h.at_ t ht).1; omega⟩

theorem keys_of {m : List (Int × Pk)} {D : List Thg} {F : Thg → Pk} (h : m.Perm (D.map fun t => (t.fAt, F t))) : (keysM m).Perm (D.map (·.fAt)) := by
  have := keysM_perm h
  unfold keysM at this
  rw [List.map_map] at this
  exact this
theorem hasM_has {m : List (Int × Pk)} {D : List Thg} {F : Thg → Pk} (h : m.Perm (D.map fun t => (t.fAt, F t))) (k : Int) : hasM eqI k m = hasL k D := by
  have hp := keys_of h
  cases hh : hasL k D with
  | true =>
    obtain ⟨u, hu, e⟩ := hasL_t.1 hh
    exact hasM_t (hp.mem_iff.2 (List.mem_map.2 ⟨u, hu, e⟩))
  | false =>
    refine hasM_f fun hk => ?_
    obtain ⟨u, hu, e⟩ := List.mem_map.1 (hp.mem_iff.1 hk)
    rw [hasL_t.2 ⟨u, hu, e⟩] at hh
    cases hh

theorem src_eta {X : Td} {c : Tu} (h : X.fc = refOf c X.fc.fv X.fc.fy X.fc.fe) (q : Sq) (b : RBf) (L : List Came) :
    Td.mk q X.fh b X.fc L X.fq X.fo = srcF (.mk q X.fh b X.fc L X.fq X.fo) c (fsOf X) := by
  show Td.mk q X.fh b X.fc L X.fq X.fo = Td.mk q X.fh b (refOf c X.fc.fv X.fc.fy X.fc.fe) L X.fq X.fo
  rw [← h]

theorem rput_src {X : Td} {c : Tu} {B : Int} {k : Nat} (h : SOk X c B k) {p : Pk} (hp : POk p) {now : Int} (hn0 : 0 ≤ now) (hn1 : now ≤ 1000000000000) (hB0 : 2000000 ≤ B) (hB : B ≤ 100000000000) (hk : k ≤ 100000) :
    gaN X p now = some (putM c X p now) := by
  have cs : cvtI .i64 p.ff = p.ff := by
    have := hp.s0; have := hp.s1
    exact wrap64_of (by omega) (by omega)
  obtain ⟨_, q2, _⟩ := seqM_ok h.sq hp.s0 hp.s1 hB0
  unfold gaN putM
  rw [cs, rseq h.sq hp.s0 hp.s1 (by omega), Ld, notB_d]
  simp only
  cases hq : (seqM X.ff p.ff).2.2 with
  | false => simp
  | true =>
    obtain ⟨a0, a1⟩ := q2 hq
    have hg : Good ⟨(seqM X.ff p.ff).2.1, ⟨#[]⟩, now⟩ := ⟨a0, by simp only; omega, hn0, hn1⟩
    rw [show (!true) = false from rfl, cond_false, rput h.od hg, Ld]
    simp only [Bool.true_eq_false, if_false]
    rw [neI_d]
    by_cases hb : (putS X.fm ⟨(seqM X.ff p.ff).2.1, ⟨#[]⟩, now⟩).2.2 = 0
    · have hl := h.ln
      rw [decide_eq_false (by omega), cond_false, if_neg (by omega), Lk (show AppB 0 (lenL X.fL) 96 from ⟨by rw [lenL_def]; omega, by rw [lenL_def]; omega⟩), Lk (show AppB (lenL X.fL) 1 96 from ⟨by rw [lenL_def]; omega, by rw [lenL_def]; omega⟩)]
      have hap : appL (appL [] X.fL) [(Tj.mk (seqM X.ff p.ff).2.1 p)] = X.fL ++ [⟨(seqM X.ff p.ff).2.1, p⟩] := rfl
      rw [hap, src_eta h.mkr]
      have hlen := put_len h.od hg
      obtain ⟨c1, c2⟩ | ⟨c1, c2⟩ | ⟨c1, c2, c3, c4⟩ := put_cases h.od hg
      · rw [c2] at hb; exact absurd hb (by simp)
      · rw [c2] at hb; exact absurd hb (by simp)
      have hgood : ∀ t ∈ (putS X.fm ⟨(seqM X.ff p.ff).2.1, ⟨#[]⟩, now⟩).2.1, Good t := fun t ht => by
        have : t ∈ insL ⟨(seqM X.ff p.ff).2.1, ⟨#[]⟩, now⟩ X.fm.fL := by rw [← c4]; exact List.mem_append_left _ ht
        rcases List.mem_cons.1 ((insL_perm _ _).mem_iff.1 this) with rfl | ht'
        · exact hg
        · exact pend_good h.od.toOk t ht'
      have hlen2 : (putS X.fm ⟨(seqM X.ff p.ff).2.1, ⟨#[]⟩, now⟩).2.1.length ≤ 1000000 := by
        have e := congrArg List.length c4
        rw [List.length_append, insL_len] at e
        have hml := h.od.ml
        have hm1 := h.od.m1
        rw [lenL_def] at hml
        omega
      have := rframes (.mk (seqM X.ff p.ff).1 X.fh (putS X.fm ⟨(seqM X.ff p.ff).2.1, ⟨#[]⟩, now⟩).1 X.fc (X.fL ++ [⟨(seqM X.ff p.ff).2.1, p⟩]) X.fq X.fo) c
        (fun m hm => by
          rcases List.mem_append.1 hm with hm | hm
          · exact h.cm m hm
          · rw [List.mem_singleton.1 hm]; exact hp)
        (by simp; omega) (putS X.fm ⟨(seqM X.ff p.ff).2.1, ⟨#[]⟩, now⟩).2.1 hlen2 hgood _ 0 rfl (Nat.zero_le _) (fsOf X) [] h.hd (Nat.zero_le _)
      unfold gG
      rw [List.drop_zero, List.nil_append] at this
      have h0 : ((0 : Nat) : Int) = 0 := rfl
      rw [h0] at this
      rw [this]
      rfl
    · rw [decide_eq_true hb, cond_true, if_pos hb]

theorem rtick_src {X : Td} {c : Tu} {B : Int} {k : Nat} (h : SOk X c B k) {now : Int} (hn0 : 0 ≤ now) (hn1 : now ≤ 1000000000000) (hk : k ≤ 100000) :
    ∃ o' l' b, gaD X now = some (.mk (tickM c X now).1.ff (tickM c X now).1.fh (tickM c X now).1.fm (refOf c o' (tickM c X now).1.fc.fy l') (tickM c X now).1.fL (tickM c X now).1.fq (tickM c X now).1.fo, (tickM c X now).2) ∧
      gY (.mk c ⟨(tickM c X now).1.fc.fv⟩ (tickM c X now).1.fc.fy (tickM c X now).1.fc.fe) now = some (b, .mk c ⟨o'⟩ (tickM c X now).1.fc.fy l') ∧ (o' = (tickM c X now).1.fc.fv ∨ o' = []) := by
  have hap := while_app (cTick now) X.fm.fL.length X.fm
  have hmem : ∀ t ∈ (tickS X.fm now).2, Good t := fun t ht => pend_good h.od.toOk t (by rw [← hap]; exact List.mem_append_left _ ht)
  have hlen : (tickS X.fm now).2.length ≤ 1000000 := by
    have e := congrArg List.length hap
    rw [List.length_append] at e
    have := h.od.len
    show (whileS (cTick now) X.fm.fL.length X.fm).2.length ≤ _
    omega
  have hl := h.ln
  have := rframes (.mk X.ff X.fh (tickS X.fm now).1 X.fc X.fL X.fq X.fo) c h.cm (by simp only; omega) (tickS X.fm now).2 hlen hmem _ 0 rfl (Nat.zero_le _) (fsOf X) [] h.hd (Nat.zero_le _)
  rw [List.drop_zero, List.nil_append] at this
  have h0 : ((0 : Nat) : Int) = 0 := rfl
  rw [h0] at this
  obtain ⟨o', l', b, t1, t2, t3⟩ := tick_both c (tickM c X now).1.fc.fv (tickM c X now).1.fc.fy (tickM c X now).1.fc.fe now
  refine ⟨o', l', b, ?_, t1, t3⟩
  unfold gaD gG
  rw [rtick h.od hn0 hn1, Ld]
  simp only
  rw [src_eta h.mkr, this, Ld, flC_go, Ld]
  have t2' : gaH (srcF (.mk X.ff X.fh (tickS X.fm now).1 X.fc X.fL X.fq X.fo) c (framesM c X.fL (tickS X.fm now).2 (fsOf X)).1).fc now = some (refOf c o' (tickM c X now).1.fc.fy l', b) := t2
  simp only at t2' ⊢
  rw [t2', Ld]
  rfl
end Go.Proofs

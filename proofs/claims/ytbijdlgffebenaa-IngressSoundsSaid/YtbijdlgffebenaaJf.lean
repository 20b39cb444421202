/- One call on a source: the program's and the document's rule are one. No condition. -/
import Derived.Test.YtbijdlgffebenaaJe
namespace Go.Proofs
open Go.Ab

theorem runL_app : ∀ (L : List Thg) (n : Int), (runL n L).1 ++ (runL n L).2.2 = L
  | [], _ => rfl
  | t :: r, n => by
    by_cases h : t.fAt = n
    · rw [runL_t h]
      simp only [List.cons_append, runL_app r (n + 1)]
    · rw [runL_f h]; rfl
theorem skip_app (x : RBf) : (skipS x).2 ++ (skipS x).1.fL = x.fL := by
  unfold skipS
  split
  · rename_i h; simp [h]
  · exact runL_app _ _
theorem while_app (c : RBf → Bool) : ∀ (f : Nat) (x : RBf), (whileS c f x).2 ++ (whileS c f x).1.fL = x.fL
  | 0, x => rfl
  | f + 1, x => by
    unfold whileS
    split
    · simp only
      rw [List.append_assoc, while_app c f, skip_app]
    · rfl
theorem put_cases {x : RBf} (h : Inv x) {t : Thg} (ht : Good t) : (t.fAt < (begS x t).fNext ∧ putS x t = (begS x t, [], 13)) ∨ (hasL t.fAt x.fL = true ∧ putS x t = (begS x t, [], 14)) ∨
    (¬ t.fAt < (begS x t).fNext ∧ hasL t.fAt x.fL = false ∧ (putS x t).2.2 = 0 ∧ (putS x t).2.1 ++ (putS x t).1.fL = insL t x.fL) := by
  obtain ⟨_, b2, _⟩ := beg_ok h ht
  unfold putS
  split
  · rename_i h1; exact .inl ⟨h1, rfl⟩
  · rename_i h1
    split
    · rename_i h2; exact .inr (.inl ⟨h2, rfl⟩)
    · rename_i h2
      refine .inr (.inr ⟨h1, by simpa using h2, rfl, ?_⟩)
      simp only
      rw [List.append_assoc, while_app]
      have := runL_app (addS (begS x t) t).fL (addS (begS x t) t).fNext
      show (runL (addS (begS x t) t).fNext (addS (begS x t) t).fL).1 ++ (runL (addS (begS x t) t).fNext (addS (begS x t) t).fL).2.2 = _
      rw [this, ← b2]; rfl
theorem Ris.le : ∀ {l : List Thg} {lo hi : Int}, Ris lo l hi → lo ≤ hi
  | [], _, _, h => h
  | t :: r, lo, hi, h => by
    have := Ris.le h.2
    have := h.1
    omega
theorem Ris.lt : ∀ {l : List Thg} {lo hi : Int}, Ris lo l hi → ∀ t ∈ l, t.fAt < hi
  | t :: r, lo, hi, h, u, hu => by
    rcases List.mem_cons.1 hu with rfl | hu
    · have := Ris.le h.2; omega
    · exact Ris.lt h.2 u hu
theorem findP_other {k k' : Int} {p : Pk} (h : k' ≠ k) : ∀ {L : List Came}, findP (L ++ [⟨k, p⟩]) k' = findP L k'
  | [] => by
    show (if k = k' then p else zeroPk) = zeroPk
    rw [if_neg (fun e => h e.symm)]
  | c :: r => by
    show (if c.fAt = k' then c.fP else findP (r ++ [⟨k, p⟩]) k') = (if c.fAt = k' then c.fP else findP r k')
    rw [findP_other h]
theorem findP_new {k : Int} {p : Pk} : ∀ {L : List Came}, (∀ c ∈ L, c.fAt ≠ k) → findP (L ++ [⟨k, p⟩]) k = p
  | [], _ => by
    show (if k = k then p else zeroPk) = p
    rw [if_pos rfl]
  | c :: r, h => by
    show (if c.fAt = k then c.fP else findP (r ++ [⟨k, p⟩]) k) = p
    rw [if_neg (h c (.head _))]
    exact findP_new fun c hc => h c (.tail _ hc)

/-- What holds of the document's source between the calls. -/
structure SOk (X : Antiphonref11Source) (c : FrameConfig) (B : Int) (k : Nat) : Prop where
  sq : SeqOk X.fSeq B
  od : Inv X.fOrder
  mkr : X.fMaker = refOf c X.fMaker.fOpen X.fMaker.fWhole X.fMaker.fLost
  hd : Held c X.fMaker.fOpen
  cm : ∀ m ∈ X.fL, POk m.fP
  ln : X.fL.length ≤ k
  un : ∀ m ∈ X.fL, X.fOrder.fBegun = true ∧ (m.fAt < X.fOrder.fNext ∨ hasL m.fAt X.fOrder.fL = true)
/-- What the program's source is to the document's. -/
structure SRel (s : IngressSource) (X : Antiphonref11Source) (c : FrameConfig) : Prop where
  bf : Rel s.fBuffer X.fOrder
  mkr : s.fMaker = .mk c ⟨X.fMaker.fOpen⟩ X.fMaker.fWhole X.fMaker.fLost
  sq : SeqRel s.fSeq X.fSeq
  ck : ClkRel s.fClock X.fClock
  mp : s.fOf.Perm (X.fOrder.fL.map fun t => (t.fAt, normP (findP X.fL t.fAt)))
  bad : s.fBad = X.fBad
  keys : s.fKeys = X.fKeys

def fsOf (X : Antiphonref11Source) : FS := ⟨X.fClock, X.fMaker.fOpen, X.fMaker.fWhole, X.fMaker.fLost, X.fKeys⟩
noncomputable def putM (c : FrameConfig) (X : Antiphonref11Source) (p : Pk) (now : Int) : Antiphonref11Source × List (List Un) × Int :=
  let q := seqM X.fSeq p.fSeq
  if q.2.2 = false then (.mk q.1 X.fClock X.fOrder X.fMaker X.fL (addI .i64 X.fBad 1) X.fKeys, [], 13)
  else
    let b := putS X.fOrder ⟨q.2.1, ⟨#[]⟩, now⟩
    if b.2.2 ≠ 0 then (.mk q.1 X.fClock b.1 X.fMaker X.fL (addI .i64 X.fBad 1) X.fKeys, [], b.2.2)
    else
      let z := framesM c (X.fL ++ [⟨q.2.1, p⟩]) b.2.1 (fsOf X)
      (srcF (.mk q.1 X.fClock b.1 X.fMaker (X.fL ++ [⟨q.2.1, p⟩]) X.fBad X.fKeys) c z.1, z.2, 0)
noncomputable def tickM (c : FrameConfig) (X : Antiphonref11Source) (now : Int) : Antiphonref11Source × List (List Un) :=
  let b := tickS X.fOrder now
  let z := framesM c X.fL b.2 (fsOf X)
  (srcF (.mk X.fSeq X.fClock b.1 X.fMaker X.fL X.fBad X.fKeys) c z.1, z.2)

theorem pend_good {x : RBf} (h : Ok x) : ∀ t ∈ x.fL, Good t := fun t ht => by
  have h1 := h.up.mem t ht
  have h0 := h.nn
  obtain ⟨h2, h3, h4⟩ := h.at_ t ht
  exact ⟨by omega, h2, h3, h4⟩
theorem bd_of {x : RBf} (h : Ok x) : Bd 1000000000000 x := ⟨h.nb, fun t ht => by have := (h.at_ t ht).1; omega⟩

theorem keys_of {m : List (Int × Pk)} {D : List Thg} {F : Thg → Pk} (h : m.Perm (D.map fun t => (t.fAt, F t))) : (keysM m).Perm (D.map (·.fAt)) := by
  have := keysM_perm h
  unfold keysM at this
  rw [List.map_map] at this
  exact this
theorem hasM_has {m : List (Int × Pk)} {D : List Thg} {F : Thg → Pk} (h : m.Perm (D.map fun t => (t.fAt, F t))) (k : Int) : hasM eqI k m = hasL k D := by
  have hp := keys_of h
  cases hh : hasL k D with
  | true =>
    obtain ⟨u, hu, e⟩ := hasL_t.1 hh
    exact hasM_t (hp.mem_iff.2 (List.mem_map.2 ⟨u, hu, e⟩))
  | false =>
    refine hasM_f fun hk => ?_
    obtain ⟨u, hu, e⟩ := List.mem_map.1 (hp.mem_iff.1 hk)
    rw [hasL_t.2 ⟨u, hu, e⟩] at hh
    cases hh

theorem src_eta {X : Antiphonref11Source} {c : FrameConfig} (h : X.fMaker = refOf c X.fMaker.fOpen X.fMaker.fWhole X.fMaker.fLost) (q : Sq) (b : RBf) (L : List Came) :
    Antiphonref11Source.mk q X.fClock b X.fMaker L X.fBad X.fKeys = srcF (.mk q X.fClock b X.fMaker L X.fBad X.fKeys) c (fsOf X) := by
  show Antiphonref11Source.mk q X.fClock b X.fMaker L X.fBad X.fKeys = Antiphonref11Source.mk q X.fClock b (refOf c X.fMaker.fOpen X.fMaker.fWhole X.fMaker.fLost) L X.fBad X.fKeys
  rw [← h]

theorem rput_src {X : Antiphonref11Source} {c : FrameConfig} {B : Int} {k : Nat} (h : SOk X c B k) {p : Pk} (hp : POk p) {now : Int} (hn0 : 0 ≤ now) (hn1 : now ≤ 1000000000000) (hB0 : 2000000 ≤ B) (hB : B ≤ 100000000000) (hk : k ≤ 100000) :
    gRef11Put X p now = some (putM c X p now) := by
  have cs : cvtI .i64 p.fSeq = p.fSeq := by
    have := hp.s0; have := hp.s1
    exact wrap64_of (by omega) (by omega)
  obtain ⟨_, q2, _⟩ := seqM_ok h.sq hp.s0 hp.s1 hB0
  unfold gRef11Put putM
  rw [cs, rseq h.sq hp.s0 hp.s1 (by omega), bind_so, notB_d]
  simp only
  cases hq : (seqM X.fSeq p.fSeq).2.2 with
  | false => simp
  | true =>
    obtain ⟨a0, a1⟩ := q2 hq
    have hg : Good ⟨(seqM X.fSeq p.fSeq).2.1, ⟨#[]⟩, now⟩ := ⟨a0, by simp only; omega, hn0, hn1⟩
    rw [show (!true) = false from rfl, cond_false, rput h.od hg, bind_so]
    simp only [Bool.true_eq_false, if_false]
    rw [neI_d]
    by_cases hb : (putS X.fOrder ⟨(seqM X.fSeq p.fSeq).2.1, ⟨#[]⟩, now⟩).2.2 = 0
    · have hl := h.ln
      rw [decide_eq_false (by omega), cond_false, if_neg (by omega), need_t (show AppB 0 (lenL X.fL) 96 from ⟨by rw [lenL_def]; omega, by rw [lenL_def]; omega⟩), need_t (show AppB (lenL X.fL) 1 96 from ⟨by rw [lenL_def]; omega, by rw [lenL_def]; omega⟩)]
      have hap : appL (appL [] X.fL) [(Antiphonref11Came.mk (seqM X.fSeq p.fSeq).2.1 p)] = X.fL ++ [⟨(seqM X.fSeq p.fSeq).2.1, p⟩] := rfl
      rw [hap, src_eta h.mkr]
      have hlen := put_len h.od hg
      obtain ⟨c1, c2⟩ | ⟨c1, c2⟩ | ⟨c1, c2, c3, c4⟩ := put_cases h.od hg
      · rw [c2] at hb; exact absurd hb (by simp)
      · rw [c2] at hb; exact absurd hb (by simp)
      have hgood : ∀ t ∈ (putS X.fOrder ⟨(seqM X.fSeq p.fSeq).2.1, ⟨#[]⟩, now⟩).2.1, Good t := fun t ht => by
        have : t ∈ insL ⟨(seqM X.fSeq p.fSeq).2.1, ⟨#[]⟩, now⟩ X.fOrder.fL := by rw [← c4]; exact List.mem_append_left _ ht
        rcases List.mem_cons.1 ((insL_perm _ _).mem_iff.1 this) with rfl | ht'
        · exact hg
        · exact pend_good h.od.toOk t ht'
      have hlen2 : (putS X.fOrder ⟨(seqM X.fSeq p.fSeq).2.1, ⟨#[]⟩, now⟩).2.1.length ≤ 1000000 := by
        have e := congrArg List.length c4
        rw [List.length_append, insL_len] at e
        have hml := h.od.ml
        have hm1 := h.od.m1
        rw [lenL_def] at hml
        omega
      have := rframes (.mk (seqM X.fSeq p.fSeq).1 X.fClock (putS X.fOrder ⟨(seqM X.fSeq p.fSeq).2.1, ⟨#[]⟩, now⟩).1 X.fMaker (X.fL ++ [⟨(seqM X.fSeq p.fSeq).2.1, p⟩]) X.fBad X.fKeys) c
        (fun m hm => by
          rcases List.mem_append.1 hm with hm | hm
          · exact h.cm m hm
          · rw [List.mem_singleton.1 hm]; exact hp)
        (by simp; omega) (putS X.fOrder ⟨(seqM X.fSeq p.fSeq).2.1, ⟨#[]⟩, now⟩).2.1 hlen2 hgood _ 0 rfl (Nat.zero_le _) (fsOf X) [] h.hd (Nat.zero_le _)
      unfold gRef11Frames
      rw [List.drop_zero, List.nil_append] at this
      have h0 : ((0 : Nat) : Int) = 0 := rfl
      rw [h0] at this
      rw [this]
      rfl
    · rw [decide_eq_true hb, cond_true, if_pos hb]

theorem rtick_src {X : Antiphonref11Source} {c : FrameConfig} {B : Int} {k : Nat} (h : SOk X c B k) {now : Int} (hn0 : 0 ≤ now) (hn1 : now ≤ 1000000000000) (hk : k ≤ 100000) :
    ∃ o' l' b, gRef11Tick X now = some (.mk (tickM c X now).1.fSeq (tickM c X now).1.fClock (tickM c X now).1.fOrder (refOf c o' (tickM c X now).1.fMaker.fWhole l') (tickM c X now).1.fL (tickM c X now).1.fBad (tickM c X now).1.fKeys, (tickM c X now).2) ∧
      gFrameMakerTick (.mk c ⟨(tickM c X now).1.fMaker.fOpen⟩ (tickM c X now).1.fMaker.fWhole (tickM c X now).1.fMaker.fLost) now = some (b, .mk c ⟨o'⟩ (tickM c X now).1.fMaker.fWhole l') ∧ (o' = (tickM c X now).1.fMaker.fOpen ∨ o' = []) := by
  have hap := while_app (cTick now) X.fOrder.fL.length X.fOrder
  have hmem : ∀ t ∈ (tickS X.fOrder now).2, Good t := fun t ht => pend_good h.od.toOk t (by rw [← hap]; exact List.mem_append_left _ ht)
  have hlen : (tickS X.fOrder now).2.length ≤ 1000000 := by
    have e := congrArg List.length hap
    rw [List.length_append] at e
    have := h.od.len
    show (whileS (cTick now) X.fOrder.fL.length X.fOrder).2.length ≤ _
    omega
  have hl := h.ln
  have := rframes (.mk X.fSeq X.fClock (tickS X.fOrder now).1 X.fMaker X.fL X.fBad X.fKeys) c h.cm (by simp only; omega) (tickS X.fOrder now).2 hlen hmem _ 0 rfl (Nat.zero_le _) (fsOf X) [] h.hd (Nat.zero_le _)
  rw [List.drop_zero, List.nil_append] at this
  have h0 : ((0 : Nat) : Int) = 0 := rfl
  rw [h0] at this
  obtain ⟨o', l', b, t1, t2, t3⟩ := tick_both c (tickM c X now).1.fMaker.fOpen (tickM c X now).1.fMaker.fWhole (tickM c X now).1.fMaker.fLost now
  refine ⟨o', l', b, ?_, t1, t3⟩
  unfold gRef11Tick gRef11Frames
  rw [rtick h.od hn0 hn1, bind_so]
  simp only
  rw [src_eta h.mkr, this, bind_so, flC_go, bind_so]
  have t2' : gRef10Tick (srcF (.mk X.fSeq X.fClock (tickS X.fOrder now).1 X.fMaker X.fL X.fBad X.fKeys) c (framesM c X.fL (tickS X.fOrder now).2 (fsOf X)).1).fMaker now = some (refOf c o' (tickM c X now).1.fMaker.fWhole l', b) := t2
  simp only at t2' ⊢
  rw [t2', bind_so]
  rfl
end Go.Proofs

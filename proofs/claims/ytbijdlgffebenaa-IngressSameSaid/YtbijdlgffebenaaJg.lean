/- One call on a source, in the program; what holds behind it. No condition. -/
import Derived.Test.YtbijdlgffebenaaM06
namespace Go.Proofs
open Go.Ab

theorem ins_up {x : RBf} (h : Inv x) {t : Thg} (_ht : Good t) (_h1 : ¬ t.fAt < (begS x t).fNext) (h2 : hasL t.fAt x.fL = false) : ((insL t x.fL).map (·.fAt)).Nodup := by
  have hn := h.toOk.up.nodup
  have hp := (insL_perm t x.fL).map (fun u : Thg => u.fAt)
  rw [hp.nodup_iff, List.map_cons, List.nodup_cons]
  refine ⟨fun hm => ?_, hn⟩
  obtain ⟨u, hu, e⟩ := List.mem_map.1 hm
  rw [hasL_t.2 ⟨u, hu, e⟩] at h2
  cases h2

theorem new_fresh {X : Antiphonref11Source} {c : FrameConfig} {B : Int} {k : Nat} (h : SOk X c B k) {t : Thg} (ht : Good t) (h1 : ¬ t.fAt < (begS X.fOrder t).fNext) (h2 : hasL t.fAt X.fOrder.fL = false) : ∀ m ∈ X.fL, m.fAt ≠ t.fAt := by
  intro m hm e
  obtain ⟨_, _, _, _, _, b6⟩ := beg_ok h.od ht
  obtain ⟨u1, u2⟩ := h.un m hm
  rcases u2 with u2 | u2
  · omega
  · rw [e, h2] at u2; cases u2

theorem oput_src {s : IngressSource} {X : Antiphonref11Source} {c : FrameConfig} {B : Int} {k : Nat} (hr : SRel s X c) (h : SOk X c B k) {p : Pk} (hp : POk p) {now : Int} (hn0 : 0 ≤ now) (hn1 : now ≤ 1000000000000) (hB0 : 2000000 ≤ B) (hB : B ≤ 100000000000) :
    ∃ s', gIngressSourcePut s p now = some ((putM c X p now).2.1.map FrameFrame.mk, (putM c X p now).2.2, s') ∧ SRel s' (putM c X p now).1 c := by
  obtain ⟨q1, q2, _⟩ := seqM_ok h.sq hp.s0 hp.s1 hB0
  obtain ⟨c1, o1, o2⟩ := oseq hr.sq h.sq hp.s0 hp.s1 (by omega)
  unfold gIngressSourcePut putM
  rw [o1, bind_so, notB_d]
  simp only
  cases hq : (seqM X.fSeq p.fSeq).2.2 with
  | false =>
    simp only [Bool.not_false, cond_true, if_true]
    exact ⟨_, rfl, ⟨hr.bf, hr.mkr, o2, hr.ck, hr.mp, by simp only; rw [hr.bad], hr.keys⟩⟩
  | true =>
    obtain ⟨a0, a1⟩ := q2 hq
    generalize hat : (seqM X.fSeq p.fSeq).2.1 = at_ at a0 a1 ⊢
    have hg : Good ⟨at_, ⟨#[]⟩, now⟩ := ⟨a0, by simp only; omega, hn0, hn1⟩
    simp only [Bool.not_true, cond_false, Bool.true_eq_false, if_false]
    have hv1 : (bif eqS p.fPayload ⟨#[]⟩ then (some (.go (Antiphonref03Packet.mk false p.fType p.fSeq p.fTime p.fSsrc p.fCsrcs p.fExt p.fProfile p.fData p.fPayload p.fPadding)) : Option (Fl Pk (List FrameFrame × Int × IngressSource))) else some (.go p)) = some (.go (normP p)) := by
      rw [eqS_empty]
      unfold normP
      by_cases hl : lenS p.fPayload < 1
      · rw [decide_eq_true hl, cond_true, if_pos hl]
      · rw [decide_eq_false hl, cond_false, if_neg hl]
    rw [hv1, bind_so, flC_go, hasM_has hr.mp at_, notB_d]
    obtain ⟨b', ob1, ob2⟩ := oput hr.bf h.od hg
    have hnd := h.od.toOk.up.nodup
    rcases put_cases h.od hg with ⟨p1, p2⟩ | ⟨p1, p2⟩ | ⟨p1, p2, p3, p4⟩
    · -- too old
      have hno : hasL at_ X.fOrder.fL = false := by
        cases hh : hasL at_ X.fOrder.fL with
        | false => rfl
        | true =>
          obtain ⟨u, hu, e⟩ := hasL_t.1 hh
          have := h.od.toOk.up.mem u hu
          have hbg : X.fOrder.fBegun = true := by
            cases hb : X.fOrder.fBegun with
            | true => rfl
            | false => rw [(h.od.bg hb).1] at hu; cases hu
          have : (begS X.fOrder ⟨at_, ⟨#[]⟩, now⟩).fNext = X.fOrder.fNext := by unfold begS; rw [if_pos hbg]
          simp only at p1
          omega
      have hkk : at_ ∉ keysM s.fOf := fun hk => by
        rw [← hasM_has hr.mp at_, hasM_t hk] at hno
        cases hno
      rw [hno, show (!false) = true from rfl, cond_true, bind_so, flC_go, ob1, bind_so, p2]
      have ob2' := ob2
      rw [p2] at ob2'
      simp only
      rw [show neI 13 0 = true from rfl, cond_true, show eqI 13 13 = true from rfl, cond_true, bind_so, flC_go, if_pos (by decide)]
      refine ⟨_, rfl, ⟨ob2', hr.mkr, o2, hr.ck, ?_, by simp only; rw [hr.bad], hr.keys⟩⟩
      have hb2 := (beg_ok h.od hg).2.1
      simp only
      rw [hb2, setM_no hkk]
      have hk2 : (keysM s.fOf).Nodup := (keys_of hr.mp).nodup_iff.2 hnd
      have hnd2 : (keysM (s.fOf ++ [(at_, normP p)])).Nodup := by
        unfold keysM
        rw [List.map_append, List.nodup_append]
        refine ⟨hk2, by simp, fun a ha b hb e => ?_⟩
        simp only [List.map_cons, List.map_nil, List.mem_singleton] at hb
        subst e; subst hb
        exact hkk ha
      exact (delM_of hnd2 List.perm_append_comm).trans hr.mp
    · -- twice
      simp only at p1
      rw [p1, show (!true) = false from rfl, cond_false, bind_so, flC_go, ob1, bind_so, p2]
      have ob2' := ob2
      rw [p2] at ob2'
      simp only
      rw [show neI 14 0 = true from rfl, cond_true, show eqI 14 13 = false from rfl, cond_false, bind_so, flC_go, if_pos (by decide)]
      refine ⟨_, rfl, ⟨ob2', hr.mkr, o2, hr.ck, ?_, by simp only; rw [hr.bad], hr.keys⟩⟩
      have hb2 := (beg_ok h.od hg).2.1
      simp only
      rw [hb2]
      exact hr.mp
    · -- taken
      simp only at p2
      have hkk : at_ ∉ keysM s.fOf := fun hk => by
        have := hasM_has hr.mp at_
        rw [hasM_t hk, p2] at this
        cases this
      rw [p2, show (!false) = true from rfl, cond_true, bind_so, flC_go, ob1, bind_so]
      simp only
      rw [p3, show neI 0 0 = false from rfl, cond_false, if_neg (by simp), setM_no hkk]
      have hfr := new_fresh h hg p1 p2
      have hL : ∀ m ∈ X.fL ++ [(⟨at_, p⟩ : Came)], POk m.fP := fun m hm => by
        rcases List.mem_append.1 hm with hm | hm
        · exact h.cm m hm
        · rw [List.mem_singleton.1 hm]; exact hp
      have hperm : (s.fOf ++ [(at_, normP p)]).Perm (((putS X.fOrder ⟨at_, ⟨#[]⟩, now⟩).2.1 ++ (putS X.fOrder ⟨at_, ⟨#[]⟩, now⟩).1.fL).map fun t => (t.fAt, normP (findP (X.fL ++ [⟨at_, p⟩]) t.fAt))) := by
        rw [p4]
        refine List.Perm.trans ?_ ((insL_perm _ _).map _).symm
        rw [List.map_cons, findP_new hfr]
        refine List.perm_append_comm.trans (List.Perm.cons _ (hr.mp.trans (List.Perm.of_eq (List.map_congr_left fun u hu => ?_))))
        have : u.fAt ≠ at_ := fun e => by
          rw [hasL_t.2 ⟨u, hu, e⟩] at p2
          cases p2
        rw [findP_other this]
      have hgood : ∀ t ∈ (putS X.fOrder ⟨at_, ⟨#[]⟩, now⟩).2.1, Good t := fun t ht => by
        have : t ∈ insL ⟨at_, ⟨#[]⟩, now⟩ X.fOrder.fL := by rw [← p4]; exact List.mem_append_left _ ht
        rcases List.mem_cons.1 ((insL_perm _ _).mem_iff.1 this) with rfl | ht'
        · exact hg
        · exact pend_good h.od.toOk t ht'
      have hlen2 : (putS X.fOrder ⟨at_, ⟨#[]⟩, now⟩).2.1.length ≤ 1000000 := by
        have e := congrArg List.length p4
        rw [List.length_append, insL_len] at e
        have hml := h.od.ml
        have hm1 := h.od.m1
        rw [lenL_def] at hml
        omega
      have hnd3 : ((((putS X.fOrder ⟨at_, ⟨#[]⟩, now⟩).2.1.drop 0) ++ (putS X.fOrder ⟨at_, ⟨#[]⟩, now⟩).1.fL).map (·.fAt)).Nodup := by
        rw [List.drop_zero, p4]
        exact ins_up h.od hg p1 p2
      obtain ⟨cl', m', e1, e2, e3⟩ := oframes c (X.fL ++ [⟨at_, p⟩]) hL (putS X.fOrder ⟨at_, ⟨#[]⟩, now⟩).2.1 (putS X.fOrder ⟨at_, ⟨#[]⟩, now⟩).1.fL hlen2 hgood c1 s.fBad b'.fConfig b'.fBegun b'.fNext b'.fLost b'.fOf _ 0 rfl (Nat.zero_le _) hnd3
        (fsOf X) [] s.fClock (s.fOf ++ [(at_, normP p)]) h.hd hr.ck (by rw [List.drop_zero]; exact hperm) (Nat.le_refl _)
      rw [List.drop_zero, List.nil_append] at e1
      rw [List.drop_zero] at e2
      have h0 : ((0 : Nat) : Int) = 0 := rfl
      rw [h0] at e1
      have hmk : s.fMaker = .mk c ⟨(fsOf X).o⟩ (fsOf X).w (fsOf X).l := hr.mkr
      have hks : s.fKeys = (fsOf X).keys := hr.keys
      unfold gIngressSourceFrames
      simp only
      rw [hmk, hks, e1, bind_so, flC_go, bind_so]
      refine ⟨_, rfl, ⟨?_, rfl, o2, e2, e3, hr.bad, rfl⟩⟩
      exact ob2

theorem put_sok {X : Antiphonref11Source} {c : FrameConfig} {B : Int} {k : Nat} (h : SOk X c B k) {p : Pk} (hp : POk p) {now : Int} (hn0 : 0 ≤ now) (hn1 : now ≤ 1000000000000) (hB0 : 2000000 ≤ B) (hB : B ≤ 100000000000) :
    SOk (putM c X p now).1 c (B + 200000) (k + 1) := by
  obtain ⟨q1, q2, _⟩ := seqM_ok h.sq hp.s0 hp.s1 hB0
  have hln := h.ln
  unfold putM
  simp only
  cases hq : (seqM X.fSeq p.fSeq).2.2 with
  | false =>
    simp only [if_true]
    exact ⟨q1, h.od, h.mkr, h.hd, h.cm, by simp only; omega, h.un⟩
  | true =>
    obtain ⟨a0, a1⟩ := q2 hq
    generalize hat : (seqM X.fSeq p.fSeq).2.1 = at_ at a0 a1 ⊢
    have hg : Good ⟨at_, ⟨#[]⟩, now⟩ := ⟨a0, by simp only; omega, hn0, hn1⟩
    simp only [Bool.true_eq_false, if_false]
    obtain ⟨i1, i2, i3, i4⟩ := put_inv h.od hg
    obtain ⟨b1, b2, b3, b4, b5, b6⟩ := beg_ok h.od hg
    have unb : ∀ m ∈ X.fL, (begS X.fOrder ⟨at_, ⟨#[]⟩, now⟩).fBegun = true ∧ (m.fAt < (begS X.fOrder ⟨at_, ⟨#[]⟩, now⟩).fNext ∨ hasL m.fAt (begS X.fOrder ⟨at_, ⟨#[]⟩, now⟩).fL = true) := fun m hm => by
      obtain ⟨u1, u2⟩ := h.un m hm
      refine ⟨b4, ?_⟩
      rw [b2]
      rcases u2 with u2 | u2
      · left; omega
      · exact .inr u2
    rcases put_cases h.od hg with ⟨p1, p2⟩ | ⟨p1, p2⟩ | ⟨p1, p2, p3, p4⟩
    · rw [if_pos (by rw [p2]; simp)]
      refine ⟨q1, i1, h.mkr, h.hd, h.cm, by simp only; omega, ?_⟩
      simp only
      rw [p2]; exact unb
    · rw [if_pos (by rw [p2]; simp)]
      refine ⟨q1, i1, h.mkr, h.hd, h.cm, by simp only; omega, ?_⟩
      simp only
      rw [p2]; exact unb
    · rw [if_neg (by rw [p3]; simp)]
      have hL : ∀ m ∈ X.fL ++ [(⟨at_, p⟩ : Came)], POk m.fP := fun m hm => by
        rcases List.mem_append.1 hm with hm | hm
        · exact h.cm m hm
        · rw [List.mem_singleton.1 hm]; exact hp
      have hgood : ∀ t ∈ (putS X.fOrder ⟨at_, ⟨#[]⟩, now⟩).2.1, Good t := fun t ht => by
        have : t ∈ insL ⟨at_, ⟨#[]⟩, now⟩ X.fOrder.fL := by rw [← p4]; exact List.mem_append_left _ ht
        rcases List.mem_cons.1 ((insL_perm _ _).mem_iff.1 this) with rfl | ht'
        · exact hg
        · exact pend_good h.od.toOk t ht'
      obtain ⟨_, r2⟩ := put_bd h.od hg (bd_of h.od.toOk) (by simp only; omega)
      have split : ∀ k : Int, hasL k (insL ⟨at_, ⟨#[]⟩, now⟩ X.fOrder.fL) = true → k < (putS X.fOrder ⟨at_, ⟨#[]⟩, now⟩).1.fNext ∨ hasL k (putS X.fOrder ⟨at_, ⟨#[]⟩, now⟩).1.fL = true := fun k hk => by
        obtain ⟨u, hu, e⟩ := hasL_t.1 hk
        rw [← p4] at hu
        rcases List.mem_append.1 hu with hu | hu
        · have := r2.lt u hu; left; omega
        · exact .inr (hasL_t.2 ⟨u, hu, e⟩)
      refine ⟨q1, i1, rfl, frames_held hL _ _ hgood h.hd, hL, by simp [srcF]; omega, fun m hm => ⟨i2, ?_⟩⟩
      have hm' : m ∈ X.fL ++ [(⟨at_, p⟩ : Came)] := hm
      rcases List.mem_append.1 hm' with hm | hm
      · obtain ⟨u1, u2⟩ := h.un m hm
        rcases u2 with u2 | u2
        · have := r2.le; left; show m.fAt < (putS X.fOrder ⟨at_, ⟨#[]⟩, now⟩).1.fNext; omega
        · refine split _ (hasL_t.2 ?_)
          obtain ⟨u, hu, e⟩ := hasL_t.1 u2
          exact ⟨u, (insL_perm _ _).mem_iff.2 (.tail _ hu), e⟩
      · rw [List.mem_singleton.1 hm]
        exact split _ (hasL_t.2 ⟨_, (insL_perm _ _).mem_iff.2 (.head _), rfl⟩)
end Go.Proofs

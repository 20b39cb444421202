/- The clock on both sources; what is missing; the stream; the beginning. No condition. -/
import Derived.Test.YtbijdlgffebenaaQ12
import Derived.Test.YtbijdlgffebenaaQ04
namespace Go.Proofs
open Go.Ab

theorem frames_ok {c : Tp} {L : List Came} (hL : ∀ c ∈ L, POk c.fP) : ∀ (r : List Thg) (σ : FS), (∀ t ∈ r, Good t) → Held c σ.o → ∀ f ∈ (framesM c L r σ).2, lenL f ≤ 9
  | [], _, _, _, _, hf => by cases hf
  | t :: r, σ, hg, h, f, hf => by
    obtain ⟨h1, h2, _⟩ := step_held hL (hg t (.head _)) h (σ := σ)
    have hr := frames_ok hL r (stepM c L σ t).1 (fun t ht => hg t (.tail _ ht)) h1
    have e : (framesM c L (t :: r) σ).2 = if 0 < lenL (stepM c L σ t).2 then (stepM c L σ t).2 :: (framesM c L r (stepM c L σ t).1).2 else (framesM c L r (stepM c L σ t).1).2 := rfl
    rw [e] at hf
    split at hf
    · rcases List.mem_cons.1 hf with rfl | hf
      · exact h2.len
      · exact hr f hf
    · exact hr f hf

theorem tick_src {s : Tf} {X : Te} {c : Tp} {B : Int} {k : Nat} (hr : SRel s X c) (h : SOk X c B k) {now : Int} (hn0 : 0 ≤ now) (hn1 : now ≤ 1000000000000) (hk : k ≤ 100000) :
    ∃ s' X' fs, gD s now = some (fs.map Tl.mk, s') ∧ gaH X now = some (X', fs) ∧ SRel s' X' c ∧ SOk X' c B k ∧ fs.length ≤ 1000000 ∧ ∀ f ∈ fs, lenL f ≤ 9 := by
  obtain ⟨o', l', b, r1, r2, r3⟩ := rtick_src h hn0 hn1 hk
  have hap := while_app (cTick now) X.fo.fL.length X.fo
  have hmem : ∀ t ∈ (tickS X.fo now).2, Good t := fun t ht => pend_good h.od.toOk t (by rw [← hap]; exact List.mem_append_left _ ht)
  have hlen : (tickS X.fo now).2.length ≤ 1000000 := by
    have e := congrArg List.length hap
    rw [List.length_append] at e
    have := h.od.len
    show (whileS (cTick now) X.fo.fL.length X.fo).2.length ≤ _
    omega
  obtain ⟨b', ob1, ob2⟩ := otick hr.bf h.od hn0 hn1
  have hnd : ((((tickS X.fo now).2.drop 0) ++ (tickS X.fo now).1.fL).map (·.fAt)).Nodup := by
    rw [List.drop_zero]
    show (((whileS (cTick now) X.fo.fL.length X.fo).2 ++ (whileS (cTick now) X.fo.fL.length X.fo).1.fL).map (·.fAt)).Nodup
    rw [hap]; exact h.od.toOk.up.nodup
  obtain ⟨cl', m', e1, e2, e3⟩ := oframes c X.fL h.cm (tickS X.fo now).2 (tickS X.fo now).1.fL hlen hmem s.ff s.fp b'.fb b'.fd b'.fg b'.fe b'.fOf _ 0 rfl (Nat.zero_le _) hnd
    (fsOf X) [] s.fh s.fOf h.hd hr.ck (by
      rw [List.drop_zero]
      show s.fOf.Perm (((whileS (cTick now) X.fo.fL.length X.fo).2 ++ (whileS (cTick now) X.fo.fL.length X.fo).1.fL).map _)
      rw [hap]; exact hr.mp) (Nat.le_refl _)
  rw [List.drop_zero, List.nil_append] at e1
  rw [List.drop_zero] at e2
  have h0 : ((0 : Nat) : Int) = 0 := rfl
  rw [h0] at e1
  have hmk : s.fc = .mk c ⟨(fsOf X).o⟩ (fsOf X).w (fsOf X).l := hr.mkr
  have hks : s.fm = (fsOf X).keys := hr.keys
  have hheld := frames_held h.cm (tickS X.fo now).2 (fsOf X) hmem h.hd
  have ho' : Held c o' := by
    rcases r3 with r | r
    · rw [r]; exact hheld
    · rw [r]; exact held_nil h.hd.sm.u0 h.hd.sm.u1
  have r2' : gP (.mk c ⟨(framesM c X.fL (tickS X.fo now).2 (fsOf X)).1.o⟩ (framesM c X.fL (tickS X.fo now).2 (fsOf X)).1.w (framesM c X.fL (tickS X.fo now).2 (fsOf X)).1.l) now = some (b, .mk c ⟨o'⟩ (tickM c X now).1.fc.fz l') := r2
  refine ⟨Tf.mk b' (.mk c ⟨o'⟩ (tickM c X now).1.fc.fz l') s.ff cl' m' s.fp (framesM c X.fL (tickS X.fo now).2 (fsOf X)).1.keys, _, (tickM c X now).2, ?_, r1, ⟨ob2, rfl, hr.sq, e2, e3, hr.bad, rfl⟩, ⟨h.sq, tick_inv h.od now, rfl, ho', h.cm, h.ln, fun m hm => ?_⟩, ?_, ?_⟩
  · unfold gD ge
    rw [ob1, Lb]
    simp only
    rw [hmk, hks, e1, Lb, flC_go, Lb]
    simp only
    rw [r2', Lb]
    rfl
  · obtain ⟨u1, u2⟩ := h.un m hm
    obtain ⟨m1, m2, m3⟩ := whileS_most (cTick now) X.fo.fL.length X.fo
    have hm0 := h.od.m0
    obtain ⟨_, rr⟩ := while_bd (cTick now) (fun x _ hc _ => cTick_ne now x hc) X.fo.fL.length X.fo h.od.toOk (by omega) (bd_of h.od.toOk)
    refine ⟨m2.trans u1, ?_⟩
    rcases u2 with u2 | u2
    · left
      have := rr.le
      show m.fAt < (whileS (cTick now) X.fo.fL.length X.fo).1.fg
      omega
    · obtain ⟨u, hu, e⟩ := hasL_t.1 u2
      rw [← hap] at hu
      rcases List.mem_append.1 hu with hu | hu
      · left
        have := rr.lt u hu
        show m.fAt < (whileS (cTick now) X.fo.fL.length X.fo).1.fg
        omega
      · exact .inr (hasL_t.2 ⟨u, hu, e⟩)
  · have := framesM_len c X.fL (tickS X.fo now).2 (fsOf X)
    show (framesM c X.fL (tickS X.fo now).2 (fsOf X)).2.length ≤ _
    omega
  · exact frames_ok h.cm _ _ hmem h.hd

theorem put_len2 {X : Te} {c : Tp} {B : Int} {k : Nat} (h : SOk X c B k) {p : Pk} (hp : POk p) {now : Int} (hn0 : 0 ≤ now) (hn1 : now ≤ 1000000000000) (hB0 : 2000000 ≤ B) (hB : B ≤ 100000000000) :
    (putM c X p now).2.1.length ≤ 1000000 ∧ ∀ f ∈ (putM c X p now).2.1, lenL f ≤ 9 := by
  obtain ⟨q1, q2, _⟩ := seqM_ok h.sq hp.s0 hp.s1 hB0
  unfold putM
  simp only
  cases hq : (seqM X.ff p.ff).2.2 with
  | false => simp
  | true =>
    obtain ⟨a0, a1⟩ := q2 hq
    generalize hat : (seqM X.ff p.ff).2.1 = at_ at a0 a1 ⊢
    have hg : Good ⟨at_, ⟨#[]⟩, now⟩ := ⟨a0, by simp only; omega, hn0, hn1⟩
    simp only [Bool.true_eq_false, if_false]
    rcases put_cases h.od hg with ⟨p1, p2⟩ | ⟨p1, p2⟩ | ⟨p1, p2, p3, p4⟩
    · rw [if_pos (by rw [p2]; simp)]; simp
    · rw [if_pos (by rw [p2]; simp)]; simp
    · rw [if_neg (by rw [p3]; simp)]
      have hL : ∀ m ∈ X.fL ++ [(⟨at_, p⟩ : Came)], POk m.fP := fun m hm => by
        rcases List.mem_append.1 hm with hm | hm
        · exact h.cm m hm
        · rw [List.mem_singleton.1 hm]; exact hp
      have hgood : ∀ t ∈ (putS X.fo ⟨at_, ⟨#[]⟩, now⟩).2.1, Good t := fun t ht => by
        have : t ∈ insL ⟨at_, ⟨#[]⟩, now⟩ X.fo.fL := by rw [← p4]; exact List.mem_append_left _ ht
        rcases List.mem_cons.1 ((insL_perm _ _).mem_iff.1 this) with rfl | ht'
        · exact hg
        · exact pend_good h.od.toOk t ht'
      have e := congrArg List.length p4
      rw [List.length_append, insL_len] at e
      have hml := h.od.ml
      have hm1 := h.od.m1
      rw [lenL_def] at hml
      have hf := framesM_len c (X.fL ++ [⟨at_, p⟩]) (putS X.fo ⟨at_, ⟨#[]⟩, now⟩).2.1 (fsOf X)
      exact ⟨by simp only; omega, frames_ok hL _ _ hgood h.hd⟩

/-! ### The same frames -/
theorem nth_map {α β : Type} [Inhabited α] [Inhabited β] (f : α → β) (l : List α) {i : Int} (h0 : 0 ≤ i) (h : i < lenL l) : nthI (l.map f) i = f (nthI l i) := by
  unfold lenL at h
  have hn : i.toNat < l.length := by omega
  simp [nthI, hn]
theorem lenM {α β : Type} (f : α → β) (l : List α) : lenL (l.map f) = lenL l := by simp [lenL]
theorem nth_mem {α : Type} [Inhabited α] {l : List α} {i : Int} (h0 : 0 ≤ i) (h : i < lenL l) : nthI l i ∈ l := by
  unfold lenL at h
  have hn : i.toNat < l.length := by omega
  simp [nthI, hn]
theorem eqS_rfl (x : ByteArray) : eqS x x = true := by unfold eqS; exact beq_self_eq_true _
theorem same11 (fs : List (List Un)) (h1 : fs.length ≤ 1000000) (h2 : ∀ f ∈ fs, lenL f ≤ 9) : gaq (fs.map Tl.mk) fs = some 0 := by
  have hl : lenL fs = (fs.length : Int) := rfl
  unfold gaq
  rw [lenM, neI_f rfl, cond_false]
  obtain ⟨t, ht, rfl⟩ := loop_ends (body := gaq.loop1 (fs.map Tl.mk) fs) (fun s => 0 ≤ s) (fun t => t = .go ()) (fun s => (lenL fs - s).toNat) (fun s hs => by
    unfold gaq.loop1
    rw [lenM, ltI_d]
    by_cases hi : s < lenL fs
    · have hb : InB s (lenL fs) := ⟨hs, hi⟩
      rw [decide_eq_true hi, cond_true, Le hb, Le hb, nth_map _ _ hs hi, neI_f rfl, cond_false, Le hb]
      have h9 := h2 _ (nth_mem hs hi)
      obtain ⟨t, ht, rfl⟩ := loop_ends (body := gaq.loop2 (fs.map Tl.mk) fs s) (fun q => 0 ≤ q) (fun t => t = .go ()) (fun q => (lenL (nthI fs s) - q).toNat) (fun q hq => by
        unfold gaq.loop2
        rw [lenM, ltI_d, nth_map _ _ hs hi]
        by_cases hj : q < lenL (nthI fs s)
        · rw [decide_eq_true hj, cond_true, Le hb, Le ⟨hq, hj⟩, Le hb, Le ⟨hq, hj⟩]
          simp only
          rw [eqI_t rfl, eqI_t rfl, eqI_t rfl, eqS_rfl]
          have e1 : ∀ b : Bool, eqB b b = true := fun b => by cases b <;> rfl
          rw [e1, e1, e1]
          have : notB (pickB true (pickB true (pickB true (pickB true (pickB true (pickB true true false) false) false) false) false) false) = false := rfl
          rw [this, cond_false, addI_n (by omega) (by omega)]
          exact ⟨by omega, by show (lenL (nthI fs s) - (q + 1)).toNat < (lenL (nthI fs s) - q).toNat; omega⟩
        · rw [decide_eq_false hj, cond_false]; rfl) 0 (by omega)
      rw [ht, Lb, flC_go, addI_n (by omega) (by omega)]
      exact ⟨by omega, by show (lenL fs - (s + 1)).toNat < (lenL fs - s).toNat; omega⟩
    · rw [decide_eq_false hi, cond_false]; rfl) 0 (by omega)
  rw [ht]; rfl

/-! ### What is missing -/
theorem miss_len (most : Int) : ∀ (L : List Thg) (a : Int) (out : List Int), lenL (missS most a out L) ≤ max (lenL out) most
  | [], a, out => by unfold missS; omega
  | t :: r, a, out => by
    unfold missS
    have h1 := miss_len most r (t.fAt + 1) (fillS most (t.fAt - a).toNat a out)
    have h2 := fill_len most (t.fAt - a).toNat a out
    omega
theorem nacks {s : Tf} {X : Te} {c : Tp} {B : Int} {k : Nat} (hr : SRel s X c) (h : SOk X c B k) :
    ∃ l : List Int, gal s 5 = some (l.map (cvtI .u16)) ∧ gT X.fo 5 = some l ∧ l.length ≤ 5 := by
  have h5 := miss_len 5 X.fo.fL X.fo.fg []
  rw [lenL_nil] at h5
  refine ⟨_, ?_, rmissing h.od.toOk (by decide) (by decide), by rw [lenL_def] at h5; omega⟩
  generalize hl : missS 5 X.fo.fg [] X.fo.fL = l at h5
  unfold gal
  rw [omissing hr.bf h.od.toOk (by decide) (by decide), hl, Lb]
  have key : ∀ (n i : Nat), l.length - i = n → i ≤ l.length → loopF (gal.loop1 l) ((i : Int), (l.take i).map (cvtI .u16)) = some (.go (l.map (cvtI .u16))) := by
    intro n
    induction n with
    | zero =>
      intro i hn hi
      have : i = l.length := by omega
      subst this
      have : gal.loop1 l ((l.length : Int), (l.take l.length).map (cvtI .u16)) = some (.out (.go ((l.take l.length).map (cvtI .u16)))) := by
        unfold gal.loop1
        simp only
        rw [ltI_d, lenL_def, decide_eq_false (by omega), cond_false]
      rw [loopF_eq, this, List.take_length]
    | succ n ih =>
      intro i hn hi
      have hlt : i < l.length := by omega
      rw [lenL_def] at h5
      have : gal.loop1 l ((i : Int), (l.take i).map (cvtI .u16)) = some (.go (((i + 1 : Nat) : Int), (l.take (i + 1)).map (cvtI .u16))) := by
        unfold gal.loop1
        simp only
        rw [ltI_d, lenL_def, decide_eq_true (by omega), cond_true, Le ⟨by omega, by omega⟩, Le (show AppB (lenL ((l.take i).map (cvtI .u16))) 1 2 from ⟨by rw [lenL_def]; simp; omega, by rw [lenL_def]; simp; omega⟩), addI_n (by omega) (by omega)]
        have e : (l.take (i + 1)).map (cvtI .u16) = appL ((l.take i).map (cvtI .u16)) [cvtI .u16 (nthI l (i : Int))] := by
          rw [List.take_succ_eq_append_getElem hlt, List.map_append]
          have : nthI l (i : Int) = l[i] := by simp [nthI, hlt]
          rw [this]; rfl
        rw [e]; rfl
      rw [loopF_eq, this]
      exact ih (i + 1) (by omega) (by omega)
  have := key l.length 0 rfl (Nat.zero_le _)
  rw [List.take_zero] at this
  have h0 : ((0 : Nat) : Int) = 0 := rfl
  rw [h0] at this
  have e2 : (([] : List Int).map (cvtI .u16)) = [] := rfl
  rw [e2] at this
  rw [this, Lb, flC_go]
  unfold gaD
  rw [Le (show CutB 0 (lenL (l.map (cvtI .u16))) (lenL (l.map (cvtI .u16))) from ⟨by omega, by rw [lenL_def]; omega, by omega⟩), Lb]
  have : cutL (l.map (cvtI .u16)) 0 (lenL (l.map (cvtI .u16))) = l.map (cvtI .u16) := by simp [cutL, lenL]
  rw [this]
end Go.Proofs

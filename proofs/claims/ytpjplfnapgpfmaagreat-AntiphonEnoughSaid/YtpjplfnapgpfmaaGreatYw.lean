/- An outlet and its reference: the same, and the next flow is the same. No condition. -/
import Derived.Test.YtpjplfnapgpfmaaGreatM14
import Derived.Test.YtpjplfnapgpfmaaGreatYv
import Derived.Test.YtpjplfnapgpfmaaGreatM04
import Derived.Test.YtpjplfnapgpfmaaGreatM07
namespace Go.Proofs
open Go.Ab
abbrev RO := Tc

theorem find20_ok {X : RO} (hl : X.fL.length ≤ 1000000) (id : Int) :
  (∃ k, ∃ h : k < X.fL.length, X.fL[k].fId = id ∧ gH X id = some (k : Int)) ∨ (id ∉ X.fL.map (·.fId) ∧ gH X id = some (-1)) := by
 have hsc := scan_ok (N := X.fL.length) (body := gH.loop1 X id) (fun k => decide (∃ h : k < X.fL.length, X.fL[k].fId = id)) (fun k => (k : Int)) hl (fun k hk => by
   unfold gH.loop1
   rw [ltI_t (by unfold lenL; omega), cond_true, Lf (inb_n hk), nthI_n hk, succ_n _ (by omega), eqI_d]
   by_cases hx : X.fL[k].fId = id
   ·rw [decide_eq_true hx, if_pos (decide_eq_true ⟨hk, hx⟩)]; rfl
   ·rw [decide_eq_false hx, if_neg (by simp [hk, hx])]; rfl)
  (by unfold gH.loop1; rw [ltI_f (by unfold lenL; omega)]; rfl)
 unfold gH
 rcases hsc with ⟨k, hk, ht, _, e⟩ | ⟨hj, e⟩
 ·obtain ⟨_, hx⟩ := of_decide_eq_true ht
  exact .inl ⟨k, hk, hx, by rw [e]; rfl⟩
 ·refine .inr ⟨fun hm => ?_, by rw [e]; rfl⟩
  obtain ⟨f, hf, hx⟩ := List.mem_map.1 hm
  obtain ⟨k, hk, rfl⟩ := List.mem_iff_getElem.1 hf
  exact of_decide_eq_false (hj k hk) ⟨hk, hx⟩
def vids (F : List Fw) : List Int := (F.filter (·.fu)).map (·.fId)
def tot (F : List Fw) : Nat := (F.map fun f => f.fQ.fL.length).sum
structure Rel (P : Tf) (X : RO) (t : Int) (n : Nat) : Prop where
 cfg : P.fd = ⟨X.fe, X.fk, X.fq, X.fb, X.fo⟩
 frames : 1 ≤ X.fe ∧ X.fe ≤ 1024
 bytes : 1 ≤ X.fk ∧ X.fk ≤ 16777216
 most : 1 ≤ X.fb ∧ X.fb ≤ 16777216
 guard : 1 ≤ X.fo ∧ X.fo ≤ 1024
 flows : FR P.fh X.fL
 qcfg : ∀ f ∈ X.fL, f.fQ.fe = X.fe ∧ f.fQ.fb = X.fk
 items : ∀ f ∈ X.fL, ∀ x ∈ f.fQ.fL, x.fj ≤ X.fb ∧ 0 ≤ x.fw ∧ x.fw ≤ t
 sched : SRel P.fa X.fS X.fb (vids X.fL)
 credit : P.fc = X.fc ∧ 0 ≤ X.fc ∧ X.fc ≤ 1099511627776
 sounds : P.ff = X.ff ∧ 0 ≤ X.ff ∧ X.ff + tot X.fL ≤ n
 many : X.fL.length ≤ n
 time : 0 ≤ t ∧ t ≤ 1000 * n
 calls : n ≤ 1000

theorem waits_vids (F : List Fw) : F.filter (waitsV true) = (F.filter (·.fu)).filter (fun f => !f.fQ.fL.isEmpty) := by
 rw [List.filter_filter]
 congr 1
 funext f
 simp [waitsV, Bool.and_comm]
def headsF (F : List Fw) : List Hd := F.map fun f => ⟨f.fId, (hd f).fj⟩
theorem headsF_ids (F : List Fw) : (headsF F).map (·.fId) = F.map (·.fId) := by simp [headsF, Function.comp_def]

theorem eheads_ok {P : Tf} {F : List Fw} (h : FR P.fh F) (V : List Fw) (hV : ∀ f ∈ V, f ∈ F ∧ waitsV true f = true) (hl : V.length ≤ 1000) :
  loopF (gh.loop1 P (V.map (·.fId))) (0, []) = some (.go (headsF V)) := by
 have key : ∀ (r p : List Fw), p ++ r = V → loopF (gh.loop1 P (V.map (·.fId))) ((p.length : Int), headsF p) = some (.go (headsF V)) := by
  intro r
  induction r with
  | nil =>
    intro p hp
    rw [List.append_nil] at hp
    subst hp
    refine Lq ?_
    unfold gh.loop1
    rw [ltI_f (by simp [lenL])]
    rfl
  | cons f r ih =>
    intro p hp
    have hln : V.length = p.length + r.length + 1 := by rw [← hp]; simp; omega
    have hm : f ∈ V := by rw [← hp]; simp
    have hn : nthI (V.map (·.fId)) (p.length : Int) = f.fId := by
     rw [← hp, List.map_append, List.map_cons]
     have := nthI_mid (p.map (·.fId)) f.fId (r.map (·.fId))
     rwa [List.length_map] at this
    obtain ⟨s, es⟩ := hd_of (hV f hm).2
    have h1 : gh.loop1 P (V.map (·.fId)) ((p.length : Int), headsF p) = some (.go (((p ++ [f]).length : Int), headsF (p ++ [f]))) := by
     unfold gh.loop1
     simp only
     rw [ltI_t (by simp [lenL]; omega), cond_true, Lf (show InB _ _ from ⟨by omega, by simp [lenL]; omega⟩), hn, h.find (hV f hm).1, optC_some, first_ok es, Ld,
      Lf (appB_1 _ (by simp [headsF]; omega) (by omega)), succ_n _ (by omega)]
     simp [headsF, app_eq]
    rw [loop_go h1]
    exact ih (p ++ [f]) (by simpa using hp)
 exact key V [] rfl

theorem minFrom_app (g : Fw) : ∀ (l : List Fw) (m : Fw), minFrom m (l ++ [g]) = if (hd g).fw < (hd (minFrom m l)).fw then g else minFrom m l
 | [], _ => rfl
 | f :: r, m => by simp only [List.cons_append, minFrom]; exact minFrom_app g r _
def IdxOf (F p : List Fw) (i : Int) : Prop := (p.filter (waitsV false) = [] ∧ i = -1) ∨ ∃ f s k, p.filter (waitsV false) = f :: s ∧ ∃ h : k < F.length, F[k]'h = minFrom f s ∧ i = (k : Int)

theorem rheads_ok {X : RO} (hl : X.fL.length ≤ 1000) : ∃ i, IdxOf X.fL X.fL i ∧ loopF (gE.loop1 X) (0, [], -1) = some (.go (headsF (X.fL.filter (waitsV true)), i)) := by
 have key : ∀ (r p : List Fw) (i : Int), p ++ r = X.fL → IdxOf X.fL p i → ∃ i', IdxOf X.fL X.fL i' ∧ loopF (gE.loop1 X) ((p.length : Int), headsF (p.filter (waitsV true)), i) = some (.go (headsF (X.fL.filter (waitsV true)), i')) := by
  intro r
  induction r with
  | nil =>
    intro p i hp hi
    rw [List.append_nil] at hp
    subst hp
    refine ⟨i, hi, Lq ?_⟩
    unfold gE.loop1
    rw [ltI_f (by simp [lenL])]
    rfl
  | cons f r ih =>
    intro p i hp hi
    have hln : X.fL.length = p.length + r.length + 1 := by rw [← hp]; simp; omega
    have hn : nthI X.fL (p.length : Int) = f := by rw [← hp]; exact nthI_mid p f r
    have hin : InB (p.length : Int) (lenL X.fL) := inb_n (by omega)
    have hpf : ∀ w, (p.filter w).length ≤ 1000 := fun w => by have := List.length_filter_le w p; omega
    have hgo : ∀ i1, IdxOf X.fL (p ++ [f]) i1 → gE.loop1 X ((p.length : Int), headsF (p.filter (waitsV true)), i) = some (.go (((p ++ [f]).length : Int), headsF ((p ++ [f]).filter (waitsV true)), i1)) →
      ∃ i', IdxOf X.fL X.fL i' ∧ loopF (gE.loop1 X) ((p.length : Int), headsF (p.filter (waitsV true)), i) = some (.go (headsF (X.fL.filter (waitsV true)), i')) := fun i1 hi1 hb => by
     obtain ⟨i', h1, h2⟩ := ih (p ++ [f]) i1 (by simpa using hp) hi1
     exact ⟨i', h1, by rw [loop_go hb]; exact h2⟩
    by_cases he : f.fQ.fL = []
    ·have w1 : waitsV true f = false := by simp [waitsV, he]
     have w2 : waitsV false f = false := by simp [waitsV, he]
     refine hgo i (by unfold IdxOf at hi ⊢; simpa [w2] using hi) ?_
     unfold gE.loop1
     simp only
     rw [ltI_t hin.2, cond_true, Lf hin, hn, he, eqI_t (show lenL ([] : List It) = 0 from rfl), cond_true, succ_n _ (by omega)]
     simp [w1]
    ·have hne : eqI (lenL f.fQ.fL) 0 = false := eqI_f (by have := List.length_pos_iff.2 he; unfold lenL; omega)
     have hi0 : InB 0 (lenL f.fQ.fL) := inb_n (k := 0) (List.length_pos_iff.2 he)
     by_cases hv : f.fu = true
     ·have w1 : waitsV true f = true := by simp [waitsV, hv, he]
      have w2 : waitsV false f = false := by simp [waitsV, hv]
      refine hgo i (by unfold IdxOf at hi ⊢; simpa [w2] using hi) ?_
      unfold gE.loop1
      simp only
      rw [ltI_t hin.2, cond_true, Lf hin, hn, hne, cond_false, hv, cond_true, Lf hi0, Lf (appB_1 _ (by simp only [headsF, List.length_map]; have := hpf (waitsV true); omega) (by omega)), succ_n _ (by omega)]
      simp [w1, headsF, app_eq, hd]
     ·have hv' : f.fu = false := by simpa using hv
      have w1 : waitsV true f = false := by simp [waitsV, hv']
      have w2 : waitsV false f = true := by simp [waitsV, hv', he]
      have hsame : headsF ((p ++ [f]).filter (waitsV true)) = headsF (p.filter (waitsV true)) := by simp [w1]
      have hlen1 : (((p ++ [f]).length : Nat) : Int) = ((p.length + 1 : Nat) : Int) := by simp
      rcases hi with ⟨h1, rfl⟩ | ⟨g, s, k, h1, hk, h2, rfl⟩
      ·refine hgo (p.length : Int) (.inr ⟨f, [], p.length, by simp [h1, w2], by omega, ?_, rfl⟩) ?_
       ·have := nthI_n (l := X.fL) (k := p.length) (by omega)
        rw [hn] at this
        exact this.symm
       ·unfold gE.loop1
        simp only
        rw [ltI_t hin.2, cond_true, Lf hin, hn, hne, cond_false, hv', cond_false, ltI_t (by omega)]
        rw [Lf (show Under true false _ from fun h => by cases h), Lf (show Under true false _ from fun h => by cases h), Lf (show Under true false _ from fun h => by cases h), succ_n _ (by omega), hsame, hlen1]
        rfl
      ·have hgk : nthI X.fL (k : Int) = minFrom g s := by rw [nthI_n hk, h2]
       have hgw : waitsV false (minFrom g s) = true := by
        have : minFrom g s ∈ p.filter (waitsV false) := by
         rw [h1]
         rcases minFrom_mem (m := g) (r := s) with q | q
         ·rw [q]; exact .head _
         ·exact .tail _ q
        exact (List.mem_filter.1 this).2
       obtain ⟨s', es⟩ := hd_of hgw
       have hi2 : InB 0 (lenL (minFrom g s).fQ.fL) := by rw [es]; exact inb_0 _ _
       by_cases hc : (hd f).fw < (hd (minFrom g s)).fw
       ·refine hgo (p.length : Int) (.inr ⟨g, s ++ [f], p.length, by simp [h1, w2], by omega, ?_, rfl⟩) ?_
        ·have := nthI_n (l := X.fL) (k := p.length) (by omega)
         rw [hn] at this
         rw [← this, minFrom_app, if_pos hc]
        ·unfold gE.loop1
         simp only
         rw [ltI_t hin.2, cond_true, Lf hin, hn, hne, cond_false, hv', cond_false, hgk, Lf (under_of hi0), Lf (under_of (inb_n hk)), Lf (under_of hi2), ltI_f (by omega)]
         rw [show ltI (nthI f.fQ.fL 0).fw (nthI (minFrom g s).fQ.fL 0).fw = true from ltI_t hc, succ_n _ (by omega), hsame, hlen1]
         rfl
       ·refine hgo (k : Int) (.inr ⟨g, s ++ [f], k, by simp [h1, w2], hk, by rw [h2, minFrom_app, if_neg hc], rfl⟩) ?_
        unfold gE.loop1
        simp only
        rw [ltI_t hin.2, cond_true, Lf hin, hn, hne, cond_false, hv', cond_false, hgk, Lf (under_of hi0), Lf (under_of (inb_n hk)), Lf (under_of hi2), ltI_f (by omega)]
        rw [show ltI (nthI f.fQ.fL 0).fw (nthI (minFrom g s).fQ.fL 0).fw = false from ltI_f hc, succ_n _ (by omega), hsame, hlen1]
        rfl
 exact key X.fL [] (-1) rfl (.inl ⟨rfl, rfl⟩)

theorem Rel.len {P : Tf} {X : RO} {t : Int} {n : Nat} (h : Rel P X t n) : X.fL.length ≤ 1000 := Nat.le_trans h.many h.calls
theorem Rel.ticks {P : Tf} {X : RO} {t : Int} {n : Nat} (h : Rel P X t n) : ∀ g ∈ X.fL, ∀ x ∈ g.fQ.fL, 0 ≤ x.fw ∧ x.fw ≤ 1000000000000 := fun g hg x hx => by
 have := h.items g hg x hx
 have := h.time
 have := h.calls
 omega
def withS (P : Tf) (s : Tp) : Tf := ⟨P.fd, P.fh, s, P.fc, P.ff⟩
def withR (X : RO) (s : RS) : RO := ⟨X.fe, X.fk, X.fq, X.fb, X.fo, X.fL, s, X.fc, X.ff⟩
theorem Rel.with {P : Tf} {X : RO} {t : Int} {n : Nat} (h : Rel P X t n) {s : Tp} {x : RS} (hs : SRel s x X.fb (vids X.fL)) : Rel (withS P s) (withR X x) t n :=
 ⟨h.cfg, h.frames, h.bytes, h.most, h.guard, h.flows, h.qcfg, h.items, hs, h.credit, h.sounds, h.many, h.time, h.calls⟩
theorem next_both {P : Tf} {X : RO} {t : Int} {n : Nat} (h : Rel P X t n) :
  (∃ k, ∃ hk : k < X.fL.length, waitsV false X.fL[k] = true ∧ (X.ff < X.fo ∨ X.fL.filter (waitsV true) = []) ∧ gh P = some (X.fL[k].fId, true, P) ∧ gE X = some (X, (k : Int))) ∨
  (∃ k s x, ∃ hk : k < X.fL.length, waitsV true X.fL[k] = true ∧ (X.fL.filter (waitsV false) = [] ∨ ¬ X.ff < X.fo) ∧ gh P = some (X.fL[k].fId, true, withS P s) ∧ gE X = some (withR X x, (k : Int)) ∧ SRel s x X.fb (vids X.fL) ∧
   ∃ s2 x2, gam s (hd X.fL[k]).fj = some s2 ∧ gaA x (hd X.fL[k]).fj = some x2 ∧ SRel s2 x2 X.fb (vids X.fL)) ∨
  (∃ s x, (∀ f ∈ X.fL, f.fQ.fL = []) ∧ gh P = some (0, false, withS P s) ∧ gE X = some (withR X x, -1) ∧ SRel s x X.fb (vids X.fL)) := by
 have hlen := h.len
 have i1 := ids_ok h.flows false
 have i2 := ids_ok h.flows true
 obtain ⟨i, hi, er⟩ := rheads_ok (X := X) hlen
 have hcs : P.ff = X.ff := h.sounds.1
 have hcg : P.fd.fo = X.fo := by rw [h.cfg]
 have hlV : (X.fL.filter (waitsV true)).length ≤ 1000 := Nat.le_trans (List.length_filter_le _ _) hlen
 have hlenV : lenL (headsF (X.fL.filter (waitsV true))) = lenL ((X.fL.filter (waitsV true)).map (·.fId)) := by simp [lenL, headsF]
 have hrise : (vids X.fL).Pairwise (· < ·) := h.flows.rise.sublist ((List.filter_sublist).map _)
 have hlvid : (vids X.fL).length ≤ 1000 := by
  have := List.length_filter_le (fun f : Fw => f.fu) X.fL
  simp only [vids, List.length_map]; omega
 by_cases hS : X.fL.filter (waitsV false) ≠ [] ∧ (X.ff < X.fo ∨ X.fL.filter (waitsV true) = [])
 ·obtain ⟨hS1, hS2⟩ := hS
  rcases hi with ⟨h1, _⟩ | ⟨f, s, k, h1, hk, h2, rfl⟩
  ·exact absurd h1 hS1
  ·refine .inl ⟨k, hk, ?_, hS2, ?_, ?_⟩
   ·have : X.fL[k] ∈ X.fL.filter (waitsV false) := by
     rw [h2, h1]
     rcases minFrom_mem (m := f) (r := s) with q | q
     ·rw [q]; exact .head _
     ·exact .tail _ q
    exact (List.mem_filter.1 this).2
   ·have hc : pickB (ltI 0 (lenL ((X.fL.filter (waitsV false)).map (·.fId)))) (pickB (ltI X.ff X.fo) true (eqI (lenL ((X.fL.filter (waitsV true)).map (·.fId))) 0)) false = true := by
     rw [len0 (by simpa using hS1), pickB_or]
     rcases hS2 with q | q
     ·rw [ltI_t q]; rfl
     ·rw [q, eqI_t (by rfl)]; simp [pickB]
    unfold gh
    rw [i1, Ld, i2, Ld, hcs, hcg, hc, cond_true, sound_ok h.flows h1 h.ticks, Ld, h2]
   ·have hc : pickB (leqI 0 (k : Int)) (pickB (ltI X.ff X.fo) true (eqI (lenL (headsF (X.fL.filter (waitsV true)))) 0)) false = true := by
     rw [leI_t (by omega), pickB_or]
     rcases hS2 with q | q
     ·rw [ltI_t q]; rfl
     ·rw [q, eqI_t (by rfl)]; simp [pickB]
    unfold gE
    rw [er]
    simp only [Ld, flC_go]
    rw [hc, cond_true]
 ·have hcP : pickB (ltI 0 (lenL ((X.fL.filter (waitsV false)).map (·.fId)))) (pickB (ltI X.ff X.fo) true (eqI (lenL ((X.fL.filter (waitsV true)).map (·.fId))) 0)) false = false := by
   by_cases hS1 : X.fL.filter (waitsV false) = []
   ·rw [hS1, ltI_f (by simp [lenL])]; rfl
   ·have hS2 : ¬ (X.ff < X.fo ∨ X.fL.filter (waitsV true) = []) := fun q => hS ⟨hS1, q⟩
    rw [ltI_f (a := X.ff) (fun q => hS2 (.inl q)), eqI_f (fun q => hS2 (.inr (by simpa [lenL] using q)))]
    simp [pickB]
  have hcR : pickB (leqI 0 i) (pickB (ltI X.ff X.fo) true (eqI (lenL (headsF (X.fL.filter (waitsV true)))) 0)) false = false := by
   rw [hlenV]
   rcases hi with ⟨_, rfl⟩ | ⟨f, s, k, h1, _, _, rfl⟩
   ·rw [leI_f (by decide)]; rfl
   ·have hS2 : ¬ (X.ff < X.fo ∨ X.fL.filter (waitsV true) = []) := fun q => hS ⟨by rw [h1]; exact List.cons_ne_nil _ _, q⟩
    rw [ltI_f (a := X.ff) (fun q => hS2 (.inl q)), eqI_f (fun q => hS2 (.inr (by simpa [lenL] using q)))]
    simp [pickB]
  have hh := eheads_ok h.flows (X.fL.filter (waitsV true)) (fun f hf => List.mem_filter.1 hf) hlV
  by_cases hV : X.fL.filter (waitsV true) = []
  ·have hS1 : X.fL.filter (waitsV false) = [] := by
    by_cases q : X.fL.filter (waitsV false) = []
    ·exact q
    ·exact absurd ⟨q, .inr hV⟩ hS
   obtain ⟨s, x, c1, c2, c3⟩ := h.sched.idle h.most.1 hrise hlvid
   refine .inr (.inr ⟨s, x, fun f hf => ?_, ?_, ?_, c3⟩)
   ·cases hl : f.fQ.fL with
    | nil => rfl
    | cons y r =>
      exfalso
      cases hv : f.fu with
      | true => exact (List.filter_eq_nil_iff.1 hV f hf) (by simp [waitsV, hv, hl])
      | false => exact (List.filter_eq_nil_iff.1 hS1 f hf) (by simp [waitsV, hv, hl])
   ·unfold gh
    rw [i1, Ld, i2, Ld, hcs, hcg, hcP, cond_false, hh]
    simp only [Ld, flC_go]
    rw [hV, show headsF [] = [] from rfl, c1]
    unfold withS
    rw [hcs]
    rfl
   ·unfold gE
    rw [er]
    simp only [Ld, flC_go]
    rw [hcR, cond_false, hV, show headsF [] = [] from rfl, c2]
    rfl
  ·have hsub : ((headsF (X.fL.filter (waitsV true))).map (·.fId)).Sublist (vids X.fL) := by
    rw [headsF_ids, waits_vids]
    exact (List.filter_sublist).map _
   obtain ⟨g, s, x, hg, c1, c2, c3, s2, x2, c4, c5, c6⟩ := h.sched.choose h.most.1 h.most.2 hrise hlvid (fun i hi => by
     obtain ⟨f, hf, rfl⟩ := List.mem_map.1 hi
     exact h.flows.ids f (List.mem_filter.1 hf).1) hsub (fun q hq => by
     obtain ⟨f, hf, rfl⟩ := List.mem_map.1 hq
     obtain ⟨hf1, hf2⟩ := List.mem_filter.1 hf
     obtain ⟨r, er⟩ := hd_of hf2
     have hm : hd f ∈ f.fQ.fL := by rw [er]; exact .head _
     exact ⟨(h.flows.ok f hf1).size _ hm, (h.items f hf1 _ hm).1⟩) (by simpa [headsF] using hV)
   obtain ⟨f, hf, rfl⟩ := List.mem_map.1 hg
   obtain ⟨hf1, hf2⟩ := List.mem_filter.1 hf
   rcases find20_ok (X := withR X x) (by simp only [withR]; omega) f.fId with ⟨k, hk, e1, e2⟩ | ⟨hno, _⟩
   ·simp only [withR] at hk e1
    have hfk : X.fL[k] = f := by
     obtain ⟨j, hj, rfl⟩ := List.mem_iff_getElem.1 hf1
     have hp := List.pairwise_iff_getElem.1 h.flows.rise
     rcases Nat.lt_trichotomy k j with q | q | q
     ·have := hp k j (by simpa using hk) (by simpa using hj) q
      simp only [List.getElem_map] at this; omega
     ·subst q; rfl
     ·have := hp j k (by simpa using hj) (by simpa using hk) q
      simp only [List.getElem_map] at this; omega
    subst hfk
    refine .inr (.inl ⟨k, s, x, hk, hf2, ?_, ?_, ?_, c3, s2, x2, c4, c5, c6⟩)
    ·by_cases q : X.fL.filter (waitsV false) = []
     ·exact .inl q
     ·exact .inr fun q2 => hS ⟨q, .inl q2⟩
    ·unfold gh
     rw [i1, Ld, i2, Ld, hcs, hcg, hcP, cond_false, hh]
     simp only [Ld, flC_go]
     rw [c1]
     unfold withS
     rw [hcs]
     rfl
    ·unfold gE
     rw [er]
     simp only [Ld, flC_go]
     rw [hcR, cond_false, c2]
     simp only [Ld, notB_f', cond_false]
     have e2' : gH ⟨X.fe, X.fk, X.fq, X.fb, X.fo, X.fL, x, X.fc, X.ff⟩ X.fL[k].fId = some (k : Int) := e2
     rw [e2']
     rfl
   ·exact absurd (List.mem_map.2 ⟨f, hf1, rfl⟩) hno
end Go.Proofs

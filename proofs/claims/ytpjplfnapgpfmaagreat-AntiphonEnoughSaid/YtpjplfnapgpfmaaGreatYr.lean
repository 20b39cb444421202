/- Add and Remove of flows; any call on both. No condition. -/
import Derived.Test.YtpjplfnapgpfmaaGreatM15
import Derived.Test.YtpjplfnapgpfmaaGreatM14
namespace Go.Proofs
open Go.Ab

theorem vids_app (p r : List Fw) : vids (p ++ r) = vids p ++ vids r := by simp [vids]
theorem vids_cons (f : Fw) (r : List Fw) : vids (f :: r) = if f.fu = true then f.fId :: vids r else vids r := by
 unfold vids
 rw [List.filter_cons]
 split <;> rfl
theorem vids_sub (F : List Fw) : (vids F).Sublist (F.map (·.fId)) := (List.filter_sublist).map _
theorem Rel.vrise {P : Tf} {X : RO} {t : Int} {n : Nat} (h : Rel P X t n) : (vids X.fL).Pairwise (· < ·) := h.flows.rise.sublist (vids_sub _)
theorem Rel.vlen {P : Tf} {X : RO} {t : Int} {n : Nat} (h : Rel P X t n) : (vids X.fL).length ≤ 1000 := by
 have := (vids_sub X.fL).length_le
 have := h.len
 simp only [List.length_map] at *; omega
theorem remove_both {P : Tf} {X : RO} {t : Int} {n : Nat} (h : Rel P X t n) (id : Int) :
  ∃ P' X' l e, gG P id = some (l, e, P') ∧ gaG X id = some (X', l, e) ∧ Rel P' X' t n ∧ l.length ≤ 2000 ∧ Cfg X X' ∧ X'.fc = X.fc ∧ X'.ff = X.ff ∧
    (X' = X ∨ ∃ p f r, X.fL = p ++ f :: r ∧ f.fId = id ∧ X'.fL = p ++ r) := by
 have hcr := h.credit
 have hso := h.sounds
 have hmo := h.most
 have hlen := h.len
 rcases findE h id with ⟨k, hk, e1, e2, e3⟩ | ⟨hno, e2, e3⟩
 ·have hmem := List.getElem_mem hk
  have hq := h.flows.ok _ hmem
  have hsm := hq.small
  obtain ⟨p, r, hp, hpl, _⟩ := split_at hk
  have hnd : (X.fL.map (·.fId)).Nodup := h.flows.rise.imp fun h => by omega
  -- the schedule
  obtain ⟨s', x', hsP, hsX, hsR⟩ : ∃ s' x', (bif X.fL[k].fu then ((gF P.fa id).bind fun r1 => some (r1.2)) else some P.fa) = some s' ∧ (∃ e, gap X.fS id = some (x', e)) ∧ SRel s' x' X.fb (vids (p ++ r)) := by
   cases hv : X.fL[k].fu with
   | true =>
     have hvs : vids X.fL = vids p ++ id :: vids r := by rw [hp, vids_app, vids_cons, hv, if_pos rfl, e1]
     obtain ⟨s', x', q1, q2, q3⟩ := h.sched.remove hmo.1 h.vrise h.vlen hvs
     exact ⟨s', x', by rw [q1]; rfl, ⟨0, q2⟩, by rw [vids_app]; exact q3⟩
   | false =>
     have hvs : vids X.fL = vids (p ++ r) := by rw [hp, vids_app, vids_cons, hv, vids_app]; simp
     have hni : id ∉ vids X.fL := fun q => by
      obtain ⟨f, hf, hfe⟩ := List.mem_map.1 q
      obtain ⟨hf1, hf2⟩ := List.mem_filter.1 hf
      have : f = X.fL[k] := by
       obtain ⟨j, hj, rfl⟩ := List.mem_iff_getElem.1 hf1
       have hpw := List.pairwise_iff_getElem.1 hnd
       rcases Nat.lt_trichotomy k j with q | q | q
       ·exact absurd (by rw [List.getElem_map, List.getElem_map, e1, hfe]) (hpw k j (by simpa using hk) (by simpa using hj) q)
       ·subst q; rfl
       ·exact absurd (by rw [List.getElem_map, List.getElem_map, e1, hfe]) (hpw j k (by simpa using hj) (by simpa using hk) q)
      rw [this, hv] at hf2; cases hf2
     exact ⟨P.fa, X.fS, rfl, ⟨12, h.sched.no h.vlen hni⟩, by rw [← hvs]; exact h.sched⟩
  obtain ⟨ex, hsX⟩ := hsX
  have htot : tot X.fL = tot (p ++ r) + X.fL[k].fQ.fL.length := by
   conv => lhs; rw [hp]
   rw [tot_app, tot_cons, tot_app]; omega
  have hFR : FR (delM eqI id P.fh) (p ++ r) := by
   have hsub : (p ++ r).Sublist X.fL := by
    conv => rhs; rw [hp]
    exact List.Sublist.append (List.Sublist.refl _) (List.sublist_cons_self _ _)
   refine ⟨?_, h.flows.rise.sublist (hsub.map _), fun f hf => h.flows.ok f (hsub.subset hf), fun f hf => h.flows.ids f (hsub.subset hf), Nat.le_trans hsub.length_le hlen⟩
   have hperm : P.fh.Perm ((id, ⟨qOf X.fL[k].fQ, X.fL[k].fu⟩) :: (p ++ r).map rowF) := by
    have := h.flows.perm
    rw [hp, List.map_append, List.map_cons] at this
    have h2 := this.trans List.perm_middle
    rw [List.map_append]
    rw [show rowF X.fL[k] = (id, ⟨qOf X.fL[k].fQ, X.fL[k].fu⟩) by unfold rowF; rw [e1]] at h2
    exact h2
   exact delM_of h.flows.nodup hperm
  have hsub : ∀ f ∈ p ++ r, f ∈ X.fL := fun f hf => by
   rw [hp]
   rcases List.mem_append.1 hf with q | q
   ·exact List.mem_append_left _ q
   ·exact List.mem_append_right _ (.tail _ q)
  have hlpr : (p ++ r).length ≤ X.fL.length := by
   have := congrArg List.length hp
   simp only [List.length_append, List.length_cons] at *; omega
  have hrel : Rel ⟨P.fd, delM eqI id P.fh, s', P.fc, P.ff⟩ ⟨X.fe, X.fk, X.fq, X.fb, X.fo, p ++ r, x', X.fc, X.ff⟩ t n :=
   ⟨h.cfg, h.frames, h.bytes, h.most, h.guard, hFR, fun f hf => h.qcfg f (hsub f hf), fun f hf => h.items f (hsub f hf), hsR, h.credit, ⟨hso.1, hso.2.1, by simp only; omega⟩, by have := h.many; simp only; omega, h.time, h.calls⟩
  refine ⟨_, _, mkS id X.fL[k].fQ.fL, 0, ?_, ?_, hrel, by simp [mkS]; omega, ⟨rfl, rfl, rfl, rfl, rfl⟩, rfl, rfl, .inr ⟨p, X.fL[k], r, hp, e1, rfl⟩⟩
  ·unfold gG
   rw [e3, optC_some]
   simp only [break_ok]
   cases hv : X.fL[k].fu with
   | true =>
     rw [hv] at hsP
     simp only [cond_true] at hsP ⊢
     cases hd : gF P.fa id with
     | none => rw [hd] at hsP; cases hsP
     | some r1 =>
       rw [hd] at hsP
       simp only [Ld, Option.some.injEq] at hsP
       subst hsP
       simp only [Ld, flC_go]
       rw [eall_ok id (by omega)]
       rfl
   | false =>
     rw [hv] at hsP
     simp only [cond_false, Option.some.injEq] at hsP ⊢
     subst hsP
     simp only [Ld, flC_go]
     rw [eall_ok id (by omega)]
     rfl
  ·unfold gaG
   have h3 : X.fL.take k = p := by
    have := List.take_left' (l₂ := X.fL[k] :: r) hpl
    rwa [← hp] at this
   have h4 : X.fL.drop (k + 1) = r := by
    have := List.drop_left' (l₁ := p ++ [X.fL[k]]) (l₂ := r) (i := k + 1) (by simp [hpl])
    rwa [List.append_assoc, List.singleton_append, ← hp] at this
   rw [e2, Ld, ltI_f (by omega), cond_false, Lf (inb_n hk), hsX]
   simp only [Ld]
   rw [succ_n _ (by omega), Lf (show CutB 0 (k : Int) (lenL X.fL) from ⟨by omega, by omega, by unfold lenL; omega⟩), cut_head, cut_tail, h3, h4,
    Lf (appB_0 _ (by simp only [List.length_append] at hlpr; omega) (by omega)), Lf (show CutB ((k + 1 : Nat) : Int) (lenL X.fL) (lenL X.fL) from ⟨by omega, by unfold lenL; omega, Int.le_refl _⟩),
    Lf (appB_l _ _ (by simp only [List.length_append] at hlpr; omega) (by simp only [List.length_append] at hlpr; omega) (by omega)), nthI_n hk, rall_ok id (by omega)]
   rfl
 ·refine ⟨P, X, [], 12, ?_, ?_, h, by simp, Cfg.refl X, rfl, rfl, .inl rfl⟩
  ·unfold gG
   rw [e3]
   rfl
  ·unfold gaG
   rw [e2, Ld, ltI_t (by omega)]
   rfl

theorem vids_ins {F : List Fw} {f : Fw} (hr : (F.map (·.fId)).Pairwise (· < ·)) (hn : f.fId ∉ F.map (·.fId)) :
  vids (insG (fun g => ltI f.fId g.fId) f F) = if f.fu = true then insG (fun i => ltI f.fId i) f.fId (vids F) else vids F := by
 have hmap : (insG (fun g : Fw => ltI f.fId g.fId) f F).map (·.fId) = insG (fun i => ltI f.fId i) f.fId (F.map (·.fId)) :=
  (insG_map (lt := fun g : Fw => ltI f.fId g.fId) (lt' := fun i => ltI f.fId i) (fun g : Fw => g.fId) (fun _ => rfl) f F).symm
 have hs1 : (vids (insG (fun g => ltI f.fId g.fId) f F)).Pairwise (· < ·) := by
  have : ((insG (fun g : Fw => ltI f.fId g.fId) f F).map (·.fId)).Pairwise (· < ·) := by rw [hmap]; exact insG_rise hr hn
  exact this.sublist (vids_sub _)
 have hp : (vids (insG (fun g => ltI f.fId g.fId) f F)).Perm (vids (f :: F)) := ((insG_perm _ _ _).filter _).map _
 have huniq : ∀ {a b : List Int}, a.Pairwise (· < ·) → b.Pairwise (· < ·) → a.Perm b → a = b := fun h1 h2 h3 =>
  List.Perm.eq_of_pairwise (le := fun a b : Int => a < b) (fun a b _ _ h1 h2 => by omega) h1 h2 h3
 have hvr : (vids F).Pairwise (· < ·) := hr.sublist (vids_sub _)
 rw [vids_cons] at hp
 by_cases hv : f.fu = true
 ·rw [if_pos hv] at hp ⊢
  exact huniq hs1 (insG_rise hvr fun q => hn ((vids_sub _).subset q)) (hp.trans (insG_perm _ _ _).symm)
 ·rw [if_neg hv] at hp ⊢
  exact huniq hs1 hvr hp
theorem add_both {P : Tf} {X : RO} {t : Int} {n : Nat} (h : Rel P X t n) (hn : n + 1 ≤ 1000) {id : Int} (hid : -9223372036854775808 ≤ id ∧ id ≤ 9223372036854775807) (v : Bool) (q : Int) :
  ∃ P' X' e, gU P id v q = some (e, P') ∧ gav X id v q = some (X', e) ∧ Rel P' X' t (n + 1) ∧ Cfg X X' ∧ X'.fc = X.fc ∧ X'.ff = X.ff ∧
    (id ∉ X.fL.map (·.fId) → (v = false ∨ (X.fb ≤ q ∧ q ≤ 16777216)) → e = 0) ∧ (id ∈ X.fL.map (·.fId) → e = 10) ∧ (id ∉ X.fL.map (·.fId) → v = true → (q < X.fb ∨ 16777216 < q) → e = 5) ∧
    ((X' = X ∧ e ≠ 0) ∨ (X'.fL = insG (fun g => ltI id g.fId) ⟨id, v, ⟨X.fe, X.fk, [], true⟩⟩ X.fL ∧ e = 0)) := by
 have hcr := h.credit
 have hso := h.sounds
 have hmo := h.most
 have hlen := h.len
 rcases findE h id with ⟨k, hk, e1, e2, e3⟩ | ⟨hno, e2, e3⟩
 ·have hin : id ∈ X.fL.map (·.fId) := List.mem_map.2 ⟨_, List.getElem_mem hk, e1⟩
  refine ⟨P, X, 10, ?_, ?_, h.mono (by omega) hn, Cfg.refl X, rfl, rfl, fun q => absurd hin q, fun _ => rfl, fun q => absurd hin q, .inl ⟨rfl, by decide⟩⟩
  ·unfold gU
   rw [e3]
   rfl
  ·unfold gav
   rw [e2, Ld, leI_t (by omega)]
   rfl
 ·by_cases hbad : v = true ∧ (q < X.fb ∨ 16777216 < q)
  ·obtain ⟨rfl, hb⟩ := hbad
   obtain ⟨b1, b2⟩ := h.sched.bad (id := id) hb
   refine ⟨P, X, 5, ?_, ?_, h.mono (by omega) hn, Cfg.refl X, rfl, rfl, fun _ q => ?_, fun q => absurd q hno, fun _ _ _ => rfl, .inl ⟨rfl, by decide⟩⟩
   ·unfold gU
    rw [e3, optC_none, b1]
    rfl
   ·unfold gav
    rw [e2, Ld, leI_f (by omega), b2]
    rfl
   ·exfalso
    rcases q with z | z
    ·cases z
    ·obtain ⟨z1, z2⟩ := z
     rcases hb with z3 | z3 <;> omega
  ·have hnv : id ∉ vids X.fL := fun q => hno ((vids_sub _).subset q)
   have hgood : v = true → X.fb ≤ q ∧ q ≤ 16777216 := fun e => by
    have h1 : ¬ (q < X.fb ∨ 16777216 < q) := fun z => hbad ⟨e, z⟩
    omega
   -- the schedule
   obtain ⟨s', x', hsP, hsX, hsR⟩ : ∃ s' x', (v = true → gaq P.fa id q = some (0, s')) ∧ (v = true → gax X.fS id q = some (x', 0)) ∧
     ((v = false → s' = P.fa ∧ x' = X.fS) ∧ SRel s' x' X.fb (vids (insG (fun g => ltI id g.fId) ⟨id, v, ⟨X.fe, X.fk, [], true⟩⟩ X.fL))) := by
    have hvi := vids_ins (F := X.fL) (f := ⟨id, v, ⟨X.fe, X.fk, [], true⟩⟩) h.flows.rise hno
    simp only at hvi
    cases v with
    | true =>
      rw [if_pos rfl] at hvi
      obtain ⟨s', x', q1, q2, q3⟩ := h.sched.add hmo.1 h.vlen (id := id) (q := q) (hgood rfl).1 (hgood rfl).2 hnv
      exact ⟨s', x', fun _ => q1, fun _ => q2, (fun q => by cases q), by rw [hvi]; exact q3⟩
    | false =>
      rw [if_neg (by decide)] at hvi
      exact ⟨P.fa, X.fS, (fun q => by cases q), (fun q => by cases q), fun _ => ⟨rfl, rfl⟩, by rw [hvi]; exact h.sched⟩
   obtain ⟨hsF, hsR⟩ := hsR
   have hperm : (insG (fun g : Fw => ltI id g.fId) ⟨id, v, ⟨X.fe, X.fk, [], true⟩⟩ X.fL).Perm (⟨id, v, ⟨X.fe, X.fk, [], true⟩⟩ :: X.fL) := insG_perm _ _ _
   have hqn : QOk ⟨X.fe, X.fk, [], true⟩ := qok_new h.frames h.bytes
   have hFR : FR (setM eqI id ⟨qOf ⟨X.fe, X.fk, [], true⟩, v⟩ P.fh) (insG (fun g => ltI id g.fId) ⟨id, v, ⟨X.fe, X.fk, [], true⟩⟩ X.fL) := by
    refine ⟨?_, ?_, fun f hf => ?_, fun f hf => ?_, ?_⟩
    ·have hk' : id ∉ keysM P.fh := fun q => hno (h.flows.keys.mem_iff.1 q)
     rw [setM_no hk']
     refine List.Perm.trans ?_ (hperm.map rowF).symm
     rw [List.map_cons]
     exact (List.perm_append_comm.trans ((h.flows.perm).cons _))
    ·rw [← insG_map (lt := fun g : Fw => ltI id g.fId) (lt' := fun i => ltI id i) (fun g : Fw => g.fId) (fun _ => rfl) (⟨id, v, ⟨X.fe, X.fk, [], true⟩⟩ : Fw) X.fL]
     exact insG_rise h.flows.rise hno
    ·rcases List.mem_cons.1 (hperm.mem_iff.1 hf) with rfl | hf
     ·exact hqn
     ·exact h.flows.ok f hf
    ·rcases List.mem_cons.1 (hperm.mem_iff.1 hf) with rfl | hf
     ·exact hid
     ·exact h.flows.ids f hf
    ·have hl1 := hperm.length_eq
     rw [List.length_cons] at hl1
     refine Nat.le_trans (Nat.le_of_eq hl1) ?_
     have := h.many
     omega
   have htot : tot (insG (fun g : Fw => ltI id g.fId) ⟨id, v, ⟨X.fe, X.fk, [], true⟩⟩ X.fL) = tot X.fL := by
    have : tot (insG (fun g : Fw => ltI id g.fId) ⟨id, v, ⟨X.fe, X.fk, [], true⟩⟩ X.fL) = tot (⟨id, v, ⟨X.fe, X.fk, [], true⟩⟩ :: X.fL) := (hperm.map fun f : Fw => f.fQ.fL.length).sum_nat
    rw [this, tot_cons]; simp
   have hrel : Rel ⟨P.fd, setM eqI id ⟨qOf ⟨X.fe, X.fk, [], true⟩, v⟩ P.fh, s', P.fc, P.ff⟩
     ⟨X.fe, X.fk, X.fq, X.fb, X.fo, insG (fun g => ltI id g.fId) ⟨id, v, ⟨X.fe, X.fk, [], true⟩⟩ X.fL, x', X.fc, X.ff⟩ t (n + 1) := by
    refine ⟨h.cfg, h.frames, h.bytes, h.most, h.guard, hFR, fun f hf => ?_, fun f hf => ?_, hsR, h.credit, ⟨hso.1, hso.2.1, by simp only; rw [htot]; omega⟩, ?_, ⟨h.time.1, by have := h.time.2; omega⟩, hn⟩
    ·rcases List.mem_cons.1 (hperm.mem_iff.1 hf) with rfl | hf
     ·exact ⟨rfl, rfl⟩
     ·exact h.qcfg f hf
    ·rcases List.mem_cons.1 (hperm.mem_iff.1 hf) with rfl | hf
     ·intro y hy; cases hy
     ·exact h.items f hf
    ·have hl1 := hperm.length_eq
     rw [List.length_cons] at hl1
     refine Nat.le_trans (Nat.le_of_eq hl1) ?_
     have := h.many
     omega
   have hc1 : P.fd.fe = X.fe := by rw [h.cfg]
   have hc2 : P.fd.fk = X.fk := by rw [h.cfg]
   have hfin : ∀ X1 : RO, X1.fL = X.fL → X1.fe = X.fe → X1.fk = X.fk → X1.fq = X.fq → X1.fb = X.fb → X1.fo = X.fo → X1.fc = X.fc → X1.ff = X.ff →
     ((loopF (gav.loop2 id (X1, v)) (0, false, [])).bind fun f => flC f fun (v2 : Bool × List Th) =>
       ((bif (notB v2.1) then (need (AppB (lenL v2.2) 1 64) <| some (.go (appL v2.2 [(Th.mk id v (Tl.mk X1.fe X1.fk [] true))]))) else (some (.go v2.2))
         : Option (Fl (List Th) (Tc × Int))).bind fun f => flC f fun (v4 : List Th) =>
         some ((Tc.mk X1.fe X1.fk X1.fq X1.fb X1.fo v4 X1.fS X1.fc X1.ff), 0))) =
     some (⟨X.fe, X.fk, X.fq, X.fb, X.fo, insG (fun g => ltI id g.fId) ⟨id, v, ⟨X.fe, X.fk, [], true⟩⟩ X.fL, X1.fS, X.fc, X.ff⟩, (0 : Int)) := by
    intro X1 y1 y2 y3 y4 y5 y6 y7 y8
    have hins := ins_loop (l := X1.fL) (lt := fun f : Fw => ltI id f.fId) (x := ⟨id, v, ⟨X1.fe, X1.fk, [], true⟩⟩) (w := 64) (by omega) (by rw [y1]; omega) (body := gav.loop2 id (X1, v)) (fun s => rfl)
    rw [← y1, ← y2, ← y3, ← y4, ← y5, ← y6, ← y7, ← y8]
    rcases hins with e | ⟨e, e'⟩
    ·rw [e]; rfl
    ·rw [e]
     simp only [Ld, flC_go, notB_t', cond_true]
     rw [Lf (appB_1 _ (by rw [y1]; omega) (by omega)), app_eq, ← e']
     rfl
   refine ⟨_, _, 0, ?_, ?_, hrel, ⟨rfl, rfl, rfl, rfl, rfl⟩, rfl, rfl, fun _ _ => rfl, fun q => absurd q hno, fun _ q1 q2 => absurd ⟨q1, q2⟩ hbad, .inr ⟨rfl, rfl⟩⟩
   ·unfold gU
    rw [e3, optC_none, hc1, hc2, qnew_ok h.frames h.bytes]
    cases v with
    | true =>
      rw [hsP rfl]
      rfl
    | false =>
      obtain ⟨rfl, _⟩ := hsF rfl
      rfl
   ·unfold gav
    rw [e2, Ld, leI_f (by omega), cond_false]
    cases v with
    | true =>
      rw [hsX rfl]
      simp only [cond_true, Ld]
      rw [neI_f rfl]
      simp only [cond_false, Ld, flC_go]
      exact hfin ⟨X.fe, X.fk, X.fq, X.fb, X.fo, X.fL, x', X.fc, X.ff⟩ rfl rfl rfl rfl rfl rfl rfl rfl
    | false =>
      obtain ⟨_, rfl⟩ := hsF rfl
      simp only [cond_false, Ld, flC_go]
      exact hfin X rfl rfl rfl rfl rfl rfl rfl rfl
end Go.Proofs

/- Put, Break, the clock's tick: the outlet's and the reference's are the same. No condition. -/
import Derived.Test.YtpjplfnapgpfmaaGreatYx
import Derived.Test.YtpjplfnapgpfmaaGreatM06
section
namespace Go.Proofs
open Go.Ab

theorem rall_ok (id : Int) {l : List It} (hl : l.length ≤ 1000000) : gas id l = some (mkS id l) := by
 unfold gas
 rw [all_gen hl (fun s => by unfold gas.loop1; rfl)]
 rfl

theorem same_ok {l : List Sn} (hl : l.length ≤ 1000000) : gR l l = some 0 := by
 have hsc := scan_ok (N := l.length) (body := gR.loop1 l l) (fun _ => false) (fun k => (k : Int)) hl (fun k hk => by
   unfold gR.loop1
   rw [ltI_t (by unfold lenL; omega), cond_true, Lf (inb_n hk), Lf (inb_n hk), nthI_n hk, neI_f rfl, Lf (under_of (inb_n hk)), Lf (under_of (inb_n hk)), eqI_t rfl, eqI_t rfl, eqI_t rfl, eqB_d, succ_n _ (by omega)]
   simp [pickB, notB])
  (by unfold gR.loop1; rw [ltI_f (by unfold lenL; omega)]; rfl)
 unfold gR
 rw [neI_f rfl, cond_false]
 rcases hsc with ⟨k, hk, ht, _⟩ | ⟨_, e⟩
 ·cases ht
 ·rw [e]; rfl

theorem Rel.mono {P : Tf} {X : RO} {t : Int} {n n' : Nat} (h : Rel P X t n) (hn : n ≤ n') (hn' : n' ≤ 1000) : Rel P X t n' := by
 have h1 := h.sounds
 have h2 := h.time
 have h3 := h.many
 exact ⟨h.cfg, h.frames, h.bytes, h.most, h.guard, h.flows, h.qcfg, h.items, h.sched, h.credit, ⟨h1.1, h1.2.1, by omega⟩, by omega, ⟨h2.1, by omega⟩, hn'⟩
structure Cfg (X X' : RO) : Prop where
 frames : X'.fe = X.fe
 bytes : X'.fk = X.fk
 age : X'.fq = X.fq
 most : X'.fb = X.fb
 guard : X'.fo = X.fo
theorem Cfg.refl (X : RO) : Cfg X X := ⟨rfl, rfl, rfl, rfl, rfl⟩

theorem findE {P : Tf} {X : RO} {t : Int} {n : Nat} (h : Rel P X t n) (id : Int) :
  (∃ k, ∃ hk : k < X.fL.length, X.fL[k].fId = id ∧ gH X id = some (k : Int) ∧ findM eqI id P.fh = some ⟨qOf X.fL[k].fQ, X.fL[k].fu⟩) ∨
  (id ∉ X.fL.map (·.fId) ∧ gH X id = some (-1) ∧ findM eqI id P.fh = none) := by
 have hlen := h.len
 rcases find20_ok (X := X) (by omega) id with ⟨k, hk, e1, e2⟩ | ⟨hno, e2⟩
 ·exact .inl ⟨k, hk, e1, e2, by rw [← e1]; exact h.flows.find (List.getElem_mem hk)⟩
 ·exact .inr ⟨hno, e2, h.flows.miss hno⟩
theorem put_both {P : Tf} {X : RO} {t : Int} {n : Nat} (h : Rel P X t n) (hn : n + 1 ≤ 1000) (id : Int) (x : It) (hx : x.fw = t) :
  ∃ P' X' l b, gar P id x = some (l, b, P') ∧ gaP X id x = some (X', l, b) ∧ Rel P' X' t (n + 1) ∧ l.length ≤ 1000 ∧ Cfg X X' ∧ X'.fc = X.fc ∧ X'.ff = X.ff ∧
    ((X' = X ∧ (id ∉ X.fL.map (·.fId) ∨ X.fb < x.fj)) ∨ ∃ k, ∃ hk : k < X.fL.length, ∃ q, X.fL[k].fId = id ∧ X'.fL = X.fL.set k (withQ X.fL[k] q) ∧
      (∃ l0, gat X.fL[k].fQ ⟨x.fN, x.fj, x.fw, pickB x.fy true (notB X.fL[k].fu)⟩ = some (q, l0, b)) ∧ (∃ d, d ++ q.fL = X.fL[k].fQ.fL ∨ d ++ q.fL = X.fL[k].fQ.fL ++ [⟨x.fN, x.fj, x.fw, pickB x.fy true (notB X.fL[k].fu)⟩])) := by
 have hcr := h.credit
 have hso := h.sounds
 have hmost : P.fd.fb = X.fb := by rw [h.cfg]
 rcases findE h id with ⟨k, hk, e1, e2, e3⟩ | ⟨hno, e2, e3⟩
 ·by_cases hm : X.fb < x.fj
  ·refine ⟨P, X, [], false, ?_, ?_, h.mono (by omega) hn, by simp, Cfg.refl X, rfl, rfl, .inl ⟨rfl, .inr hm⟩⟩
   ·unfold gar
    rw [e3, optC_some, hmost, ltI_t hm, cond_true]
   ·unfold gaP
    rw [e2, Ld, ltI_t hm, pickB_or]
    simp
  ·have hmem := List.getElem_mem hk
   have hq := h.flows.ok _ hmem
   obtain ⟨q', l, b, p1, p2, p3, p4, p5, p6, p7⟩ := put_ok hq (⟨x.fN, x.fj, x.fw, pickB x.fy true (notB X.fL[k].fu)⟩ : It)
   have hsm := hq.small
   have hc := h.qcfg _ hmem
   have hlen := congrArg List.length p6
   have hll : l.length + q'.fL.length ≤ X.fL[k].fQ.fL.length + 1 := by cases b <;> simp at hlen <;> omega
   have htot := set_tot hk q'
   have htk := tot_get hk
   have hrel := h.set hk p3 (by rw [p4, p5]; exact hc) (fun y hy => by
     have hy' : y ∈ l ++ q'.fL := List.mem_append_right _ hy
     rw [p6] at hy'
     cases b with
     | false => exact h.items _ hmem y hy'
     | true =>
       rcases List.mem_append.1 hy' with q | q
       ·exact h.items _ hmem y q
       ·rw [List.mem_singleton.1 q]
        have := h.time
        simp only
        omega) h.sched (c := X.fc) hcr.2 (so := X.ff) (n' := n + 1) (by omega) hn (by omega)
   have hlb : l.length ≤ 1000 := by omega
   refine ⟨_, _, mkS id l, b, ?_, ?_, hrel, by simp [mkS]; exact hlb, ⟨rfl, rfl, rfl, rfl, rfl⟩, rfl, rfl, .inr ⟨k, hk, q', e1, rfl, ⟨l, p2⟩, l, ?_⟩⟩
   ·unfold gar
    rw [e3, optC_some, hmost, ltI_f hm, cond_false, p1]
    simp only [Ld]
    rw [eall_ok id (by omega)]
    simp only [Ld]
    rw [e1, hcr.1, hso.1]
   ·unfold gaP
    rw [e2, Ld, ltI_f hm, ltI_f (by omega)]
    rw [show pickB false true false = false from rfl, cond_false, Lf (under_of (inb_n hk)), Lf (inb_n hk), nthI_n hk, p2]
    simp only [Ld]
    rw [set20_ok (by have := h.len; omega) hk]
    simp only [Ld]
    rw [rall_ok id (by omega)]
    rfl
   ·cases b with
    | true => exact .inr p6
    | false => exact .inl p6
 ·refine ⟨P, X, [], false, ?_, ?_, h.mono (by omega) hn, by simp, Cfg.refl X, rfl, rfl, .inl ⟨rfl, .inl hno⟩⟩
  ·unfold gar
   rw [e3]
   rfl
  ·unfold gaP
   rw [e2, Ld, ltI_t (by omega)]
   rfl
theorem break_both {P : Tf} {X : RO} {t : Int} {n : Nat} (h : Rel P X t n) (id : Int) :
  ∃ P' X' l, gag P id = some (l, P') ∧ gaJ X id = some (X', l) ∧ Rel P' X' t n ∧ l.length ≤ 2000 ∧ Cfg X X' ∧ X'.fc = X.fc ∧ X'.ff = X.ff ∧
    (X' = X ∨ ∃ k, ∃ hk : k < X.fL.length, X.fL[k].fId = id ∧ X'.fL = X.fL.set k (withQ X.fL[k] ⟨X.fL[k].fQ.fe, X.fL[k].fQ.fb, [], true⟩)) := by
 have hcr := h.credit
 have hso := h.sounds
 rcases findE h id with ⟨k, hk, e1, e2, e3⟩ | ⟨hno, e2, e3⟩
 ·have hmem := List.getElem_mem hk
  have hq := h.flows.ok _ hmem
  have hsm := hq.small
  have hc := h.qcfg _ hmem
  have htot := set_tot hk ⟨X.fL[k].fQ.fe, X.fL[k].fQ.fb, [], true⟩
  simp only [List.length_nil] at htot
  have hrel := h.set hk (q := ⟨X.fL[k].fQ.fe, X.fL[k].fQ.fb, [], true⟩) (qok_new hq.frames hq.most) hc (fun y hy => by cases hy) h.sched (c := X.fc) hcr.2 (so := X.ff) (Nat.le_refl n) h.calls (by omega)
  refine ⟨_, _, mkS id X.fL[k].fQ.fL, ?_, ?_, hrel, by simp [mkS]; omega, ⟨rfl, rfl, rfl, rfl, rfl⟩, rfl, rfl, .inr ⟨k, hk, e1, rfl⟩⟩
  ·unfold gag
   rw [e3, optC_some]
   simp only [break_ok, Ld]
   rw [eall_ok id (by omega)]
   simp only [Ld]
   rw [e1, hcr.1, hso.1]
  ·unfold gaJ
   rw [e2, Ld, ltI_f (by omega), cond_false, Lf (inb_n hk), nthI_n hk, rall_ok id (by omega)]
   simp only [Ld]
   rw [set20_ok (by have := h.len; omega) hk]
   rfl
 ·refine ⟨P, X, [], ?_, ?_, h, by simp, Cfg.refl X, rfl, rfl, .inl rfl⟩
  ·unfold gag
   rw [e3]
   rfl
  ·unfold gaJ
   rw [e2, Ld, ltI_t (by omega)]
   rfl
theorem Rel.later {P : Tf} {X : RO} {t t' : Int} {n : Nat} (h : Rel P X t n) (h1 : t ≤ t') (h2 : t' ≤ t + 1000) (hn : n + 1 ≤ 1000) : Rel P X t' (n + 1) := by
 have hs := h.sounds
 have ht := h.time
 have hm := h.many
 exact ⟨h.cfg, h.frames, h.bytes, h.most, h.guard, h.flows, h.qcfg, fun f hf x hx => (have := h.items f hf x hx; ⟨this.1, this.2.1, by omega⟩), h.sched, h.credit, ⟨hs.1, hs.2.1, by omega⟩, by omega, ⟨by omega, by omega⟩, hn⟩

theorem mid_set (p r : List Fw) (f g : Fw) : (p ++ f :: r).set p.length g = p ++ g :: r := by simp
def Fresh (now age : Int) (f : Fw) : Prop := ∀ x r, f.fQ.fL = x :: r → ¬ age ≤ subI .i64 now x.fw
def RestOf (f g : Fw) : Prop := f.fId = g.fId ∧ f.fu = g.fu ∧ ∃ d, d ++ g.fQ.fL = f.fQ.fL

inductive RestL : List Fw → List Fw → Prop
 | nil : RestL [] []
 | cons {f g p q} : RestOf f g → RestL p q → RestL (f :: p) (g :: q)
theorem RestL.app {p q p' q' : List Fw} (h : RestL p q) (h' : RestL p' q') : RestL (p ++ p') (q ++ q') := by
 induction h with
 | nil => exact h'
 | cons h1 _ ih => exact .cons h1 ih
theorem RestL.refl : ∀ p : List Fw, RestL p p
 | [] => .nil
 | _f :: r => .cons ⟨rfl, rfl, [], rfl⟩ (RestL.refl r)
theorem tot_app (p r : List Fw) : tot (p ++ r) = tot p + tot r := by simp [tot]
theorem tot_cons (f : Fw) (r : List Fw) : tot (f :: r) = f.fQ.fL.length + tot r := by simp [tot]

theorem tick_both {P : Tf} {X : RO} {t : Int} {n : Nat} (h : Rel P X t n) (now : Int) :
  ∃ P' X' l, gA P now = some (l, P') ∧ gau X now = some (X', l) ∧ Rel P' X' t n ∧ l.length ≤ 1000 ∧ Cfg X X' ∧ X'.fc = X.fc ∧ X'.ff = X.ff ∧
    (∀ f ∈ X'.fL, Fresh now X.fq f) ∧ RestL X.fL X'.fL := by
 have hcr := h.credit
 have hso := h.sounds
 have hlen := h.len
 have hcalls := h.calls
 have hage : P.fd.fq = X.fq := by rw [h.cfg]
 have key : ∀ (r p p' : List Fw) (acc : List Sn) (P1 : Tf) (X1 : RO), p ++ r = X.fL → p'.length = p.length → X1.fL = p' ++ r → Rel P1 X1 t n → P1.fd = P.fd → P1.fa = P.fa → P1.fc = P.fc → P1.ff = P.ff →
   Cfg X X1 → X1.fc = X.fc → X1.ff = X.ff → acc.length + tot r ≤ 1000 → (∀ f ∈ p', Fresh now X.fq f) → RestL p p' →
   ∃ P' X' l, loopF (gA.loop1 P now) ((p.length : Int), acc, P1.fh) = some (.go (l, P'.fh)) ∧ loopF (gau.loop1 X now) ((p.length : Int), acc, X1) = some (.go (l, X')) ∧ Rel P' X' t n ∧
     P'.fd = P.fd ∧ P'.fa = P.fa ∧ P'.fc = P.fc ∧ P'.ff = P.ff ∧ l.length ≤ 1000 ∧ Cfg X X' ∧ X'.fc = X.fc ∧ X'.ff = X.ff ∧ (∀ f ∈ X'.fL, Fresh now X.fq f) ∧ RestL X.fL X'.fL := by
  intro r
  induction r with
  | nil =>
    intro p p' acc P1 X1 hp hl hx1 hr c1 c2 c3 c4 c5 c6 c7 ha hf hz
    rw [List.append_nil] at hp hx1
    refine ⟨P1, X1, acc, ?_, ?_, hr, c1, c2, c3, c4, by omega, c5, c6, c7, by rw [hx1]; exact hf, by rw [hx1, ← hp]; exact hz⟩
    ·refine Lq ?_
     unfold gA.loop1
     rw [h.flows.sort, ltI_f (by rw [← hp]; simp [lenL])]
     rfl
    ·refine Lq ?_
     unfold gau.loop1
     rw [ltI_f (by rw [← hp]; simp [lenL])]
     rfl
  | cons f r ih =>
    intro p p' acc P1 X1 hp hl hx1 hr c1 c2 c3 c4 c5 c6 c7 ha hf hz
    have hln : X.fL.length = p.length + r.length + 1 := by rw [← hp]; simp; omega
    have hmem : f ∈ X1.fL := by rw [hx1]; simp
    have hq := hr.flows.ok f hmem
    have hsm := hq.small
    obtain ⟨q', l, q1, q2, q3, q4⟩ := expire_ok hq now X.fq
    have hk : p'.length < X1.fL.length := by rw [hx1]; simp
    have hfk : X1.fL[p'.length] = f := by simp only [hx1]; simp
    rw [tot_cons] at ha
    have hlq := congrArg List.length q3.all
    simp only [List.length_append] at hlq
    have htot := set_tot hk q'
    rw [hfk] at htot
    have hso1 := hr.sounds
    have hlen1 := hr.len
    have hrel := hr.set hk (q := q') q3.ok (by rw [q3.frames, q3.most]; exact hr.qcfg f hmem) (fun y hy => hr.items f hmem y (by rw [← q3.all]; exact List.mem_append_right _ hy)) hr.sched (c := X1.fc) hr.credit.2 (so := X1.ff) (Nat.le_refl n) hr.calls
     ⟨hso1.2.1, by rw [hfk]; omega⟩
    rw [hfk] at hrel
    have hset : X1.fL.set p'.length (withQ f q') = p' ++ withQ f q' :: r := by rw [hx1]; exact mid_set p' r f _
    obtain ⟨P', X', l', e1, e2, e3⟩ := ih (p ++ [f]) (p' ++ [withQ f q']) (acc ++ mkS f.fId l) _ _ (by simpa using hp) (by simp [hl]) (by simp only; rw [hset]; simp) hrel c1 c2 (by simp only; rw [c6, hcr.1]) (by simp only; rw [c7, hso.1])
     ⟨c5.frames, c5.bytes, c5.age, c5.most, c5.guard⟩ c6 c7 (by simp [mkS]; omega) (fun g hg => by
      rcases List.mem_append.1 hg with hg | hg
      ·exact hf g hg
      ·rw [List.mem_singleton.1 hg]; exact q4) (hz.app (.cons ⟨rfl, rfl, l, q3.all⟩ .nil))
    refine ⟨P', X', l', ?_, ?_, e3⟩
    ·refine Eq.trans (loop_go ?_) e1
     unfold gA.loop1
     simp only
     have hn : nthI (X.fL.map (·.fId)) (p.length : Int) = f.fId := by
      rw [← hp, List.map_append, List.map_cons]
      have := nthI_mid (p.map (·.fId)) f.fId (r.map (·.fId))
      rwa [List.length_map] at this
     rw [h.flows.sort, ltI_t (by simp [lenL]; omega), cond_true, Lf (show InB _ _ from ⟨by omega, by simp [lenL]; omega⟩), hn, hr.flows.find hmem, optC_some, hage, q1]
     simp only [Ld]
     rw [eall_ok _ (by omega)]
     simp only [Ld]
     rw [Lf (appB_l _ _ (by omega) (by simp [mkS]; omega) (by omega)), succ_n _ (by omega)]
     simp [app_eq]
    ·refine Eq.trans (loop_go ?_) e2
     unfold gau.loop1
     simp only
     have hn : nthI X.fL (p.length : Int) = f := by rw [← hp]; exact nthI_mid p f r
     rw [ltI_t (by unfold lenL; omega), cond_true, Lf (inb_n (by omega)), hn, c5.age, q2]
     simp only [Ld]
     rw [← hl, set20_ok (by omega) hk]
     simp only [Ld]
     rw [rall_ok _ (by omega)]
     simp only [Ld]
     rw [Lf (appB_l _ _ (by omega) (by simp [mkS]; omega) (by omega)), succ_n _ (by omega), hfk]
     simp [app_eq, hl, c5.age]
 obtain ⟨P', X', l, e1, e2, hr, c1, c2, c3, c4, hl, c5, c6, c7, hf, hz⟩ := key X.fL [] [] [] P X rfl rfl rfl h rfl rfl rfl rfl (Cfg.refl X) rfl rfl (by simp; omega) (fun f hf => by cases hf) .nil
 refine ⟨P', X', l, ?_, ?_, hr, hl, c5, c6, c7, hf, hz⟩
 ·unfold gA
  rw [Lf h.flows.keysB, show loopF (gA.loop1 P now) (0, [], P.fh) = _ from e1]
  simp only [Ld, flC_go]
  rw [← c1, ← c2, ← c3, ← c4]
 ·unfold gau
  rw [show loopF (gau.loop1 X now) (0, [], X) = _ from e2]
  rfl
end Go.Proofs
end
section
namespace Go.Proofs
open Go.Ab

/-! ### Putting one in its place -/
def insG {α : Type} (lt : α → Bool) (x : α) : List α → List α
 | [] => [x]
 | f :: r => if lt f = true then x :: f :: r else f :: insG lt x r
theorem insG_perm {α : Type} (lt : α → Bool) (x : α) : ∀ l, (insG lt x l).Perm (x :: l)
 | [] => .refl _
 | f :: r => by
   unfold insG
   split
   ·exact .refl _
   ·exact ((insG_perm lt x r).cons f).trans (List.Perm.swap _ _ _)
theorem insG_map {α β : Type} {lt : α → Bool} {lt' : β → Bool} (g : α → β) (h : ∀ f, lt' (g f) = lt f) (x : α) : ∀ l : List α, insG lt' (g x) (l.map g) = (insG lt x l).map g
 | [] => rfl
 | f :: r => by
   simp only [List.map_cons, insG, h]
   split
   ·rfl
   ·rw [insG_map g h x r]; rfl
theorem insG_rise {id : Int} : ∀ {l : List Int}, l.Pairwise (· < ·) → id ∉ l → (insG (fun i => ltI id i) id l).Pairwise (· < ·)
 | [], _, _ => by simp [insG]
 | i :: r, h, hn => by
   have h' := h
   rw [List.pairwise_cons] at h
   simp only [List.mem_cons, not_or] at hn
   unfold insG
   by_cases hi : id < i
   ·rw [if_pos (ltI_t hi)]
    rw [List.pairwise_cons]
    refine ⟨fun a ha => ?_, h'⟩
    rcases List.mem_cons.1 ha with rfl | ha
    ·exact hi
    ·exact Int.lt_trans hi (h.1 a ha)
   ·rw [if_neg (by rw [ltI_f hi]; decide)]
    rw [List.pairwise_cons]
    refine ⟨fun a ha => ?_, insG_rise h.2 hn.2⟩
    rcases List.mem_cons.1 ((insG_perm _ _ _).mem_iff.1 ha) with rfl | ha
    ·omega
    ·exact h.1 a ha

theorem ins_loop {α T : Type} [Inhabited α] {l : List α} {lt : α → Bool} {x : α} {w : Nat} (hw : w ≤ 64) (hl : l.length ≤ 1000000) {body : Int × Bool × List α → Option (Fl (Int × Bool × List α) (Fl (Bool × List α) T))}
  (hb : ∀ s, body s = bif ltI s.1 (lenL l) then (need (InB s.1 (lenL l)) <| ((bif (pickB (notB s.2.1) (lt (nthI l s.1)) false) then (need (AppB (lenL s.2.2) 1 w) <| some (.go (true, (appL s.2.2 [x]))))
   else some (.go (s.2.1, s.2.2)) : Option (Fl (Bool × List α) (Fl (Int × Bool × List α) (Fl (Bool × List α) T)))).bind fun f => flC f fun (v : Bool × List α) => need (AppB (lenL v.2) 1 w) <|
   some (.go ((addI .i64 s.1 1), v.1, (appL v.2 [(nthI l s.1)]))))) else some (.out (.go (s.2.1, s.2.2)))) :
  loopF body (0, false, []) = some (.go (true, insG lt x l)) ∨ (loopF body (0, false, []) = some (.go (false, l)) ∧ insG lt x l = l ++ [x]) := by
 have d : ∀ (r p out : List α), p ++ r = l → out.length + r.length ≤ 2000000 → loopF body ((p.length : Int), true, out) = some (.go (true, out ++ r)) := by
  intro r
  induction r with
  | nil =>
    intro p out hp _
    rw [List.append_nil] at hp
    subst hp
    refine Lq ?_
    rw [hb, ltI_f (by simp only [lenL]; omega), List.append_nil]
    rfl
  | cons f r ih =>
    intro p out hp ho
    have hlen : l.length = p.length + r.length + 1 := by rw [← hp]; simp; omega
    have hn : nthI l (p.length : Int) = f := by rw [← hp]; exact nthI_mid p f r
    simp only [List.length_cons] at ho
    have h1 : body ((p.length : Int), true, out) = some (.go (((p ++ [f]).length : Int), true, out ++ [f])) := by
     rw [hb]
     simp only
     rw [ltI_t (by unfold lenL; omega), cond_true, Lf (by rw [← hp]; exact inb_mid p f r), hn, notB_f', show pickB false (lt f) false = false from rfl, cond_false]
     simp only [Ld, flC_go]
     rw [Lf (appB_1 _ (by omega) hw), succ_n _ (by omega)]
     simp [app_eq]
    rw [loop_go h1, ih (p ++ [f]) (out ++ [f]) (by simpa using hp) (by simp; omega)]
    simp
 have e : ∀ (r p : List α), p ++ r = l → loopF body ((p.length : Int), false, p) = some (.go (true, p ++ insG lt x r)) ∨ (loopF body ((p.length : Int), false, p) = some (.go (false, l)) ∧ insG lt x r = r ++ [x]) := by
  intro r
  induction r with
  | nil =>
    intro p hp
    rw [List.append_nil] at hp
    subst hp
    refine .inr ⟨Lq ?_, rfl⟩
    rw [hb, ltI_f (by simp only [lenL]; omega)]
    rfl
  | cons f r ih =>
    intro p hp
    have hlen : l.length = p.length + r.length + 1 := by rw [← hp]; simp; omega
    have hn : nthI l (p.length : Int) = f := by rw [← hp]; exact nthI_mid p f r
    have hi : InB (p.length : Int) (lenL l) := by rw [← hp]; exact inb_mid p f r
    by_cases hf : lt f = true
    ·left
     have h1 : body ((p.length : Int), false, p) = some (.go (((p ++ [f]).length : Int), true, p ++ [x] ++ [f])) := by
      rw [hb]
      simp only
      rw [ltI_t (by unfold lenL; omega), cond_true, Lf hi, hn, notB_t', hf, show pickB true true false = true from rfl, cond_true, Lf (appB_1 _ (by omega) hw)]
      simp only [Ld, flC_go]
      rw [Lf (appB_1 _ (by simp [app_eq]; omega) hw), succ_n _ (by omega)]
      simp [app_eq]
     rw [loop_go h1, d r (p ++ [f]) _ (by simpa using hp) (by simp; omega)]
     simp [insG, hf]
    ·have hf' : lt f = false := by simpa using hf
     have h1 : body ((p.length : Int), false, p) = some (.go (((p ++ [f]).length : Int), false, p ++ [f])) := by
      rw [hb]
      simp only
      rw [ltI_t (by unfold lenL; omega), cond_true, Lf hi, hn, notB_t', hf', show pickB true false false = false from rfl, cond_false]
      simp only [Ld, flC_go]
      rw [Lf (appB_1 _ (by omega) hw), succ_n _ (by omega)]
      simp [app_eq]
     rw [loop_go h1]
     rcases ih (p ++ [f]) (by simpa using hp) with q | ⟨q1, q2⟩
     ·left
      rw [q]
      simp [insG, hf']
     ·right
      refine ⟨q1, ?_⟩
      simp [insG, hf', q2]
 have := e l [] rfl
 simpa using this

/-! ### The schedule -/
theorem flv_app (p r : List Int) (sh lf : Int → Int) : flv (p ++ r) sh lf = flv p sh lf ++ flv r sh lf := by simp [flv]
theorem flv_congr2 {ids : List Int} {sh sh' lf lf' : Int → Int} (h : ∀ i ∈ ids, sh i = sh' i ∧ lf i = lf' i) : flv ids sh lf = flv ids sh' lf' := by
 unfold flv
 exact List.map_congr_left fun i hi => by rw [(h i hi).1, (h i hi).2]

section
variable {s : Tp} {x : RS} {mo : Int} {ids : List Int}
theorem SRel.no (h : SRel s x mo ids) (hi : ids.length ≤ 1000) {id : Int} (hn : id ∉ ids) : gap x id = some (x, 12) := by
 obtain ⟨sh, lf, a, gr, hr, rfl, hlf, hsh, hoff⟩ := h
 rcases rfind_ok (s := ⟨mo, flv ids sh lf, a, gr⟩) rfl (by omega) id with ⟨k, hk, ek, ef⟩ | ⟨_, ef⟩
 ·exact absurd (List.mem_iff_getElem.2 ⟨k, hk, ek⟩) hn
 ·unfold gap
  rw [ef, Ld, ltI_t (by omega), cond_true]
theorem SRel.remove (h : SRel s x mo ids) (h1 : 1 ≤ mo) (hrise : ids.Pairwise (· < ·)) (hi : ids.length ≤ 1000) {id : Int} {p r : List Int} (hp : ids = p ++ id :: r) :
  ∃ s' x', gF s id = some (0, s') ∧ gap x id = some (x', 0) ∧ SRel s' x' mo (p ++ r) := by
 obtain ⟨sh, lf, a, gr, hr, rfl, hlf, hsh, hoff⟩ := h
 have hm : id ∈ ids := by rw [hp]; simp
 have hnd : ids.Nodup := hrise.imp fun h => by omega
 have hnp : id ∉ p ++ r := by
  rw [hp] at hnd
  have := (List.perm_middle (a := id) (l₁ := p) (l₂ := r)).nodup_iff.1 hnd
  exact (List.nodup_cons.1 this).1
 have hs := hsh id hm
 obtain ⟨s', e1, e2⟩ := remove_ok hr (id := id) (by omega)
 refine ⟨s', ⟨mo, flv (p ++ r) (setF sh id 0) (setF lf id 0), a, if a = id then false else gr⟩, e1, ?_, ?_⟩
 ·rcases rfind_ok (s := ⟨mo, flv ids sh lf, a, gr⟩) rfl (by omega) id with ⟨k, hk, ek, ef⟩ | ⟨hno, _⟩
  ·have hkp : k = p.length := by
    have hq : ids[p.length]? = some id := by rw [hp]; simp
    obtain ⟨hj, hj2⟩ := List.getElem?_eq_some_iff.1 hq
    have hpw := List.pairwise_iff_getElem.1 hnd
    rcases Nat.lt_trichotomy k p.length with q | q | q
    ·exact absurd (by rw [ek, hj2]) (hpw k p.length hk hj q)
    ·exact q
    ·exact absurd (by rw [ek, hj2]) (hpw p.length k hj hk q)
   have h3 : (flv ids sh lf).take k = flv p sh lf := by rw [hp, hkp]; simp [flv]
   have h4 : (flv ids sh lf).drop (k + 1) = flv r sh lf := by
    rw [hp, hkp, show p ++ id :: r = (p ++ [id]) ++ r by simp, flv_app]
    exact List.drop_left' (by simp [flv])
   have h5 : flv p sh lf ++ flv r sh lf = flv (p ++ r) (setF sh id 0) (setF lf id 0) := by
    rw [← flv_app]
    exact flv_congr2 fun i hi => by
     have : i ≠ id := fun q => hnp (q ▸ hi)
     simp [setF, this]
   have hlen := flv_len ids sh lf
   have hpl := congrArg List.length hp
   simp only [List.length_append, List.length_cons] at hpl
   unfold gap
   rw [ef, Ld, ltI_f (by omega), cond_false]
   simp only
   rw [succ_n _ (by omega), Lf (show CutB 0 (k : Int) (lenL (flv ids sh lf)) from ⟨by omega, by omega, by unfold lenL; omega⟩), cut_head, cut_tail, h3, h4,
    Lf (appB_0 _ (by rw [flv_len]; omega) (by omega)), Lf (show CutB ((k + 1 : Nat) : Int) (lenL (flv ids sh lf)) (lenL (flv ids sh lf)) from ⟨by omega, by unfold lenL; omega, Int.le_refl _⟩),
    Lf (appB_l _ _ (by rw [flv_len]; omega) (by rw [flv_len]; omega) (by omega)), app_eq, app_eq, List.nil_append, h5]
   by_cases ha : a = id
   ·rw [eqI_t ha, if_pos ha]; rfl
   ·rw [eqI_f ha, if_neg ha]; rfl
  ·exact absurd hm hno
 ·refine ⟨setF sh id 0, setF lf id 0, a, _, e2, rfl, fun y => ?_, fun i hi => ?_, fun i hi => ?_⟩
  ·simp only [setF]
   by_cases hy : y = id
   ·rw [if_pos hy]; exact ⟨Int.le_refl _, .inl (by omega)⟩
   ·rw [if_neg hy]
    refine ⟨(hlf y).1, ?_⟩
    rcases (hlf y).2 with q | ⟨q1, q2, q3⟩
    ·exact .inl q
    ·exact .inr ⟨q1, by rw [if_neg (by rw [← q1]; exact hy)]; exact q2, q3⟩
  ·have : i ≠ id := fun q => hnp (q ▸ hi)
   simp only [setF, if_neg this]
   exact hsh i (by
    rw [hp]
    rcases List.mem_append.1 hi with q | q
    ·exact List.mem_append_left _ q
    ·exact List.mem_append_right _ (.tail _ q))
  ·simp only [setF]
   by_cases hy : i = id
   ·rw [if_pos hy, if_pos hy]; exact ⟨rfl, rfl⟩
   ·rw [if_neg hy, if_neg hy]
    refine hoff i fun q => hi ?_
    rw [hp] at q
    rcases List.mem_append.1 q with q | q
    ·exact List.mem_append_left _ q
    ·rcases List.mem_cons.1 q with q | q
     ·exact absurd q hy
     ·exact List.mem_append_right _ q

theorem SRel.bad (h : SRel s x mo ids) {id q : Int} (hq : q < mo ∨ 16777216 < q) : gaq s id q = some (5, s) ∧ gax x id q = some (x, 5) := by
 obtain ⟨sh, lf, a, gr, hr, rfl, hlf, hsh, hoff⟩ := h
 constructor
 ·unfold gaq
  rw [hr.mo, pickB_or]
  rcases hq with hq | hq
  ·rw [ltI_t hq]; rfl
  ·rw [ltI_t hq]; simp
 ·unfold gax
  simp only
  rw [pickB_or]
  rcases hq with hq | hq
  ·rw [ltI_t hq]; rfl
  ·rw [ltI_t hq]; simp
theorem SRel.add (h : SRel s x mo ids) (_h1 : 1 ≤ mo) (hi : ids.length ≤ 1000) {id q : Int} (h0 : mo ≤ q) (hq : q ≤ 16777216) (hn : id ∉ ids) :
  ∃ s' x', gaq s id q = some (0, s') ∧ gax x id q = some (x', 0) ∧ SRel s' x' mo (insG (fun i => ltI id i) id ids) := by
 obtain ⟨sh, lf, a, gr, hr, rfl, hlf, hsh, hoff⟩ := h
 have ho := hoff id hn
 obtain ⟨s', e1, e2⟩ := add_ok hr (id := id) h0 hq (by omega)
 have hfl : insG (fun f : RF => ltI id f.fId) ⟨id, q, 0⟩ (flv ids sh lf) = flv (insG (fun i => ltI id i) id ids) (setF sh id q) lf := by
  rw [flv_congr2 (ids := ids) (sh' := setF sh id q) (lf' := lf) fun i hi => ⟨by simp [setF, show i ≠ id from fun e => hn (e ▸ hi)], rfl⟩]
  have := insG_map (lt := fun i => ltI id i) (lt' := fun f : RF => ltI id f.fId) (fun i => (⟨i, setF sh id q i, lf i⟩ : RF)) (fun _ => rfl) id ids
  simp only [setF, if_pos, ho.2] at this
  exact this
 refine ⟨s', ⟨mo, flv (insG (fun i => ltI id i) id ids) (setF sh id q) lf, a, gr⟩, e1, ?_, ?_⟩
 ·have hins := ins_loop (l := flv ids sh lf) (lt := fun f : RF => ltI id f.fId) (x := ⟨id, q, 0⟩) (w := 24) (by omega) (by rw [flv_len]; omega) (body := gax.loop1 ⟨mo, flv ids sh lf, a, gr⟩ id q) (fun s => rfl)
  rw [hfl] at hins
  rcases rfind_ok (s := ⟨mo, flv ids sh lf, a, gr⟩) rfl (by omega) id with ⟨k, hk, ek, ef⟩ | ⟨_, ef⟩
  ·exact absurd (List.mem_iff_getElem.2 ⟨k, hk, ek⟩) hn
  ·unfold gax
   simp only
   rw [ltI_f (by omega), ltI_f (by omega), show pickB false true false = false from rfl, cond_false, ef, Ld, leI_f (by omega), cond_false]
   rcases hins with e | ⟨e, e'⟩
   ·rw [e]; rfl
   ·rw [e]
    simp only [Ld, flC_go, notB_t', cond_true]
    rw [Lf (appB_1 _ (by rw [flv_len]; omega) (by omega)), app_eq, ← e']
    rfl
 ·refine ⟨setF sh id q, lf, a, gr, e2, rfl, hlf, fun i hi => ?_, fun i hi => ?_⟩
  ·rcases List.mem_cons.1 ((insG_perm _ _ _).mem_iff.1 hi) with rfl | hi
   ·simp [setF]; omega
   ·have : i ≠ id := fun e => hn (e ▸ hi)
    simp only [setF, if_neg this]
    exact hsh i hi
  ·have hm := mt (insG_perm _ _ _).mem_iff.2 hi
   simp only [List.mem_cons, not_or] at hm
   simp only [setF, if_neg hm.1]
   exact hoff i hm.2
end
end Go.Proofs
end

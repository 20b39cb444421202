/- What goes out: the outlet's and the reference's run are the same. No condition. -/
import Derived.Test.YtpjplfnapgpfmaaGreatYw
namespace Go.Proofs
open Go.Ab

theorem split_at {α : Type} {F : List α} {k : Nat} (hk : k < F.length) : ∃ p r, F = p ++ F[k] :: r ∧ p.length = k ∧ ∀ x, F.set k x = p ++ x :: r := by
 refine ⟨F.take k, F.drop (k + 1), ?_, by simp; omega, fun x => ?_⟩
 ·rw [List.getElem_cons_drop hk, List.take_append_drop]
 ·rw [List.set_eq_take_append_cons_drop, if_pos hk]
def withQ (f : Fw) (q : RQ) : Fw := ⟨f.fId, f.fu, q⟩

section
variable {F : List Fw} {k : Nat}
theorem set_ids (hk : k < F.length) (q : RQ) : (F.set k (withQ F[k] q)).map (·.fId) = F.map (·.fId) := by
 obtain ⟨p, r, e, _, hs⟩ := split_at hk
 rw [hs]
 conv => rhs; rw [e]
 simp [withQ]
theorem set_vids (hk : k < F.length) (q : RQ) : vids (F.set k (withQ F[k] q)) = vids F := by
 obtain ⟨p, r, e, _, hs⟩ := split_at hk
 rw [hs]
 conv => rhs; rw [e]
 unfold vids
 rw [List.filter_append, List.filter_append, List.filter_cons, List.filter_cons]
 cases hv : F[k].fu <;> simp [withQ, hv]
theorem set_tot (hk : k < F.length) (q : RQ) : tot (F.set k (withQ F[k] q)) + F[k].fQ.fL.length = tot F + q.fL.length := by
 obtain ⟨p, r, e, _, hs⟩ := split_at hk
 rw [hs]
 have e2 : tot F = tot p + (F[k].fQ.fL.length + tot r) := by
  conv => lhs; rw [e]
  simp [tot]
 rw [e2]
 simp only [tot, List.map_append, List.map_cons, List.sum_append, List.sum_cons, withQ]
 omega
theorem setL_mem {f g : Fw} (h : f ∈ F.set k g) : f = g ∨ f ∈ F := by
 rcases List.mem_or_eq_of_mem_set h with h | h
 ·exact .inr h
 ·exact .inl h
theorem tot_get (hk : k < F.length) : F[k].fQ.fL.length ≤ tot F := by
 obtain ⟨p, r, e, _, _⟩ := split_at hk
 have e2 : tot F = tot p + (F[k].fQ.fL.length + tot r) := by
  conv => lhs; rw [e]
  simp [tot]
 omega
theorem FR.set {m : List (Int × Tj)} (h : FR m F) (hk : k < F.length) {q : RQ} (hq : QOk q) : FR (setM eqI F[k].fId ⟨qOf q, F[k].fu⟩ m) (F.set k (withQ F[k] q)) := by
 have hids := set_ids hk q
 refine ⟨?_, by rw [hids]; exact h.rise, fun f hf => ?_, fun f hf => ?_, by simpa using h.len⟩
 ·obtain ⟨p, r, e, _, hs⟩ := split_at hk
  have h1 : m.Perm (rowF F[k] :: (p.map rowF ++ r.map rowF)) := by
   have := h.perm
   rw [e, List.map_append, List.map_cons] at this
   exact this.trans List.perm_middle
  have h2 := setM_perm (v' := (⟨qOf q, F[k].fu⟩ : Tj)) h.nodup (h1.mem_iff.2 (.head _)) h1
  rw [hs, List.map_append, List.map_cons]
  exact h2.trans List.perm_middle.symm
 ·rcases setL_mem hf with rfl | hf
  ·exact hq
  ·exact h.ok f hf
 ·rcases setL_mem hf with rfl | hf
  ·exact h.ids F[k] (List.getElem_mem hk)
  ·exact h.ids f hf
end

theorem Rel.set {P : Tf} {X : RO} {t : Int} {n : Nat} (h : Rel P X t n) {k : Nat} (hk : k < X.fL.length) {q : RQ} (hq : QOk q) (hc : q.fe = X.fe ∧ q.fb = X.fk)
  (hi : ∀ x ∈ q.fL, x.fj ≤ X.fb ∧ 0 ≤ x.fw ∧ x.fw ≤ t) {s : Tp} {x : RS} (hs : SRel s x X.fb (vids X.fL)) {c : Int} (hcr : 0 ≤ c ∧ c ≤ 1099511627776) {so : Int} {n' : Nat}
  (hn : n ≤ n') (hn' : n' ≤ 1000) (hso : 0 ≤ so ∧ so + tot (X.fL.set k (withQ X.fL[k] q)) ≤ n') :
  Rel ⟨P.fd, setM eqI X.fL[k].fId ⟨qOf q, X.fL[k].fu⟩ P.fh, s, c, so⟩ ⟨X.fe, X.fk, X.fq, X.fb, X.fo, X.fL.set k (withQ X.fL[k] q), x, c, so⟩ t n' := by
 have ht := h.time
 refine ⟨h.cfg, h.frames, h.bytes, h.most, h.guard, h.flows.set hk hq, fun f hf => ?_, fun f hf => ?_, ?_, ⟨rfl, hcr⟩, ⟨rfl, hso⟩, ?_, ⟨ht.1, by omega⟩, hn'⟩
 ·rcases setL_mem hf with rfl | hf
  ·exact hc
  ·exact h.qcfg f hf
 ·rcases setL_mem hf with rfl | hf
  ·exact hi
  ·exact h.items f hf
 ·show SRel s x X.fb (vids (X.fL.set k (withQ X.fL[k] q)))
  rw [set_vids]; exact hs
 ·have := h.many
  simp only [List.length_set]; omega

theorem set20_ok {X : RO} (hl : X.fL.length ≤ 1000000) {k : Nat} (hk : k < X.fL.length) (q : RQ) :
  gaE X (k : Int) q = some ⟨X.fe, X.fk, X.fq, X.fb, X.fo, X.fL.set k (withQ X.fL[k] q), X.fS, X.fc, X.ff⟩ := by
 unfold gaE
 rw [Lf (appB_0 _ (by omega) (by omega)), Lf (inb_n hk), nthI_n hk]
 simp [setI, withQ]
inductive Tr (g : Int) : List Fw → Int → Int → List Sn → List Fw → Int → Int → Prop
 | nil {F so cr} : ((∀ f ∈ F, f.fQ.fL = []) ∨ ∃ f ∈ F, f.fQ.fL ≠ [] ∧ cr < (hd f).fj) → Tr g F so cr [] F so cr
 | snd {F so cr out F' so' cr'} (k : Nat) (hk : k < F.length) : waitsV false F[k] = true → (so < g ∨ F.filter (waitsV true) = []) → (hd F[k]).fj ≤ cr →
   Tr g (F.set k (withQ F[k] (rpop F[k].fQ))) (so + 1) (cr - (hd F[k]).fj) out F' so' cr' → Tr g F so cr (⟨F[k].fId, hd F[k]⟩ :: out) F' so' cr'
 | pic {F so cr out F' so' cr'} (k : Nat) (hk : k < F.length) : waitsV true F[k] = true → (F.filter (waitsV false) = [] ∨ ¬ so < g) → (hd F[k]).fj ≤ cr →
   Tr g (F.set k (withQ F[k] (rpop F[k].fQ))) 0 (cr - (hd F[k]).fj) out F' so' cr' → Tr g F so cr (⟨F[k].fId, hd F[k]⟩ :: out) F' so' cr'

abbrev RunSt := List Sn × Ts × Int × Int × (List (Int × Tj)) × Int × Int × Bool × (List (Int × Int)) × (List (Int × Int))
def tupP (acc : List Sn) (P : Tf) : RunSt := (acc, P.fd, P.fc, P.ff, P.fh, P.fa.fb, P.fa.fAt, P.fa.fg, P.fa.fm, P.fa.fp)

theorem run_loop {t : Int} {n : Nat} : ∀ (m : Nat) (P : Tf) (X : RO) (acc : List Sn) (i : Nat), Rel P X t n → tot X.fL ≤ m → i + m < 100000 → acc.length + m ≤ 100000 →
  ∃ P' X' out, loopF gu.loop1 (tupP acc P) = some (.out (acc ++ out, P')) ∧ loopF gal.loop1 ((i : Int), acc, X) = some (.out (X', acc ++ out)) ∧ Rel P' X' t n ∧
    Tr X.fo X.fL X.ff X.fc out X'.fL X'.ff X'.fc ∧ X'.fo = X.fo ∧ X'.fq = X.fq ∧ X'.fe = X.fe ∧ X'.fk = X.fk ∧ X'.fb = X.fb := by
 intro m
 induction m with
 | zero =>
   intro P X acc i h hm hi ha
   have h0 : ∀ k (hk : k < X.fL.length), X.fL[k].fQ.fL = [] := fun k hk => by
    have := tot_get hk
    exact List.length_eq_zero_iff.1 (by omega)
   rcases next_both h with ⟨k, hk, hw, _⟩ | ⟨k, s, x, hk, hw, _⟩ | ⟨s, x, hall, e1, e2, e3⟩
   ·obtain ⟨r, e⟩ := hd_of hw
    rw [h0 k hk] at e; cases e
   ·obtain ⟨r, e⟩ := hd_of hw
    rw [h0 k hk] at e; cases e
   ·refine ⟨withS P s, withR X x, [], ?_, ?_, h.with e3, .nil (.inl hall), rfl, rfl, rfl, rfl, rfl⟩
    ·refine Lq ?_
     unfold gu.loop1 tupP
     simp only
     rw [show gh ⟨P.fd, P.fh, ⟨P.fa.fb, P.fa.fm, P.fa.fp, P.fa.fAt, P.fa.fg⟩, P.fc, P.ff⟩ = _ from e1]
     simp only [Ld, notB_t', cond_true, List.append_nil]
    ·refine Lq ?_
     unfold gal.loop1
     simp only
     rw [ltI_t (by omega), cond_true, e2]
     simp only [Ld]
     rw [ltI_t (by omega), cond_true]
     simp only [Ld, flC_out, List.append_nil]
 | succ m ih =>
   intro P X acc i h hm hi ha
   have hlen := h.len
   have hcr := h.credit
   have hso := h.sounds
   have hmo := h.most
   -- one that goes out
   have step : ∀ (k : Nat) (hk : k < X.fL.length) (v : Bool) (s s2 : Tp) (x x2 : RS) (so2 : Int), waitsV v X.fL[k] = true → (hd X.fL[k]).fj ≤ X.fc → SRel s2 x2 X.fb (vids X.fL) →
     gh P = some (X.fL[k].fId, true, withS P s) → gE X = some (withR X x, (k : Int)) →
     (v = true → gam s (hd X.fL[k]).fj = some s2 ∧ gaA x (hd X.fL[k]).fj = some x2 ∧ so2 = 0) →
     (v = false → s = s2 ∧ x = x2 ∧ so2 = X.ff + 1) →
     ∃ P' X' out, loopF gu.loop1 (tupP acc P) = some (.out (acc ++ ⟨X.fL[k].fId, hd X.fL[k]⟩ :: out, P')) ∧ loopF gal.loop1 ((i : Int), acc, X) = some (.out (X', acc ++ ⟨X.fL[k].fId, hd X.fL[k]⟩ :: out)) ∧ Rel P' X' t n ∧
       Tr X.fo (X.fL.set k (withQ X.fL[k] (rpop X.fL[k].fQ))) so2 (X.fc - (hd X.fL[k]).fj) out X'.fL X'.ff X'.fc ∧ X'.fo = X.fo ∧ X'.fq = X.fq ∧ X'.fe = X.fe ∧ X'.fk = X.fk ∧ X'.fb = X.fb := by
    intro k hk v s s2 x x2 so2 hw hle hs2 n1 n2 hv1 hv0
    obtain ⟨r, er⟩ := hd_of hw
    have hvid := waitsV_v hw
    have hmem : X.fL[k] ∈ X.fL := List.getElem_mem hk
    have hqok := h.flows.ok _ hmem
    have hm1 : hd X.fL[k] ∈ X.fL[k].fQ.fL := by rw [er]; exact .head _
    have hsz := hqok.size _ hm1
    have htk := tot_get hk
    have hqlen : X.fL[k].fQ.fL.length = r.length + 1 := by rw [er]; rfl
    have htot := set_tot hk (rpop X.fL[k].fQ)
    have hpl : (rpop X.fL[k].fQ).fL.length = r.length := by simp [rpop, er]
    have hso2 : 0 ≤ so2 ∧ so2 + tot (X.fL.set k (withQ X.fL[k] (rpop X.fL[k].fQ))) ≤ n := by
     cases v with
     | true => obtain ⟨_, _, e⟩ := hv1 rfl; omega
     | false => obtain ⟨_, _, e⟩ := hv0 rfl; omega
    have hrel := h.set hk hqok.pop (h.qcfg _ hmem) (fun y hy => h.items _ hmem y (by
      have : y ∈ X.fL[k].fQ.fL.drop 1 := hy
      exact List.mem_of_mem_drop this)) hs2 (c := X.fc - (hd X.fL[k]).fj) (by omega) (so := so2) (Nat.le_refl n) h.calls hso2
    obtain ⟨P', X', out, q1, q2, q3, q4, q5, q6, q7, q8, q9⟩ := ih _ _ (acc ++ [⟨X.fL[k].fId, hd X.fL[k]⟩]) (i + 1) hrel (by simp only; omega) (by omega) (by simp; omega)
    refine ⟨P', X', out, ?_, ?_, q3, q4, q5, q6, q7, q8, q9⟩
    ·rw [List.append_assoc] at q1
     refine Eq.trans (loop_go ?_) q1
     unfold gu.loop1
     unfold tupP
     simp only
     rw [show gh ⟨P.fd, P.fh, ⟨P.fa.fb, P.fa.fm, P.fa.fp, P.fa.fAt, P.fa.fg⟩, P.fc, P.ff⟩ = _ from n1]
     simp only [Ld, notB_f', cond_false, withS]
     rw [h.flows.find hmem, optC_some, first_ok er]
     simp only [Ld]
     rw [ltI_f (by omega), cond_false, pop_ok hqok er]
     simp only [Ld, hvid]
     cases v with
     | true =>
       obtain ⟨e1, _, rfl⟩ := hv1 rfl
       simp only [cond_true, e1, Ld, flC_go]
       rw [Lf (appB_1 _ (by omega) (by omega)), hcr.1, subI_n (by omega) (by omega)]
       rfl
     | false =>
       obtain ⟨rfl, _, rfl⟩ := hv0 rfl
       simp only [cond_false, Ld, flC_go]
       have := h.calls
       rw [Lf (appB_1 _ (by omega) (by omega)), hcr.1, hso.1, subI_n (by omega) (by omega), addI_n (by omega) (by omega)]
       rfl
    ·rw [List.append_assoc] at q2
     refine Eq.trans (loop_go ?_) q2
     unfold gal.loop1
     simp only
     rw [ltI_t (by omega), cond_true, n2]
     simp only [Ld]
     rw [ltI_f (by omega), cond_false, Lf (show InB (k : Int) (lenL (withR X x).fL) from inb_n hk), show nthI (withR X x).fL (k : Int) = X.fL[k] from nthI_n hk, Lf (show InB 0 (lenL X.fL[k].fQ.fL) by rw [er]; exact inb_0 _ _)]
     have hcut : cutL X.fL[k].fQ.fL 1 (lenL X.fL[k].fQ.fL) = X.fL[k].fQ.fL.drop 1 := cut_tail _ 1
     rw [show ltI (withR X x).fc (nthI X.fL[k].fQ.fL 0).fj = false from ltI_f (by show ¬ X.fc < (hd X.fL[k]).fj; omega), cond_false,
      Lf (show CutB 1 (lenL X.fL[k].fQ.fL) (lenL X.fL[k].fQ.fL) from ⟨by omega, by unfold lenL; omega, Int.le_refl _⟩), hcut,
      show gaE (withR X x) (k : Int) ⟨X.fL[k].fQ.fe, X.fL[k].fQ.fb, X.fL[k].fQ.fL.drop 1, X.fL[k].fQ.fv⟩ = _ from set20_ok (X := withR X x) (by simp only [withR]; omega) hk _]
     simp only [Ld, withR, hvid]
     cases v with
     | true =>
       obtain ⟨_, e1, rfl⟩ := hv1 rfl
       rw [cond_true, show gaA x (nthI X.fL[k].fQ.fL 0).fj = _ from e1]
       simp only [Ld, flC_go]
       rw [Lf (appB_1 _ (by omega) (by omega)), show subI .i64 X.fc (nthI X.fL[k].fQ.fL 0).fj = _ from subI_n (by show _ ≤ X.fc - (hd X.fL[k]).fj; omega) (by show X.fc - (hd X.fL[k]).fj < _; omega), succ_n _ (by omega)]
       rfl
     | false =>
       obtain ⟨_, rfl, rfl⟩ := hv0 rfl
       have := h.calls
       rw [cond_false]
       simp only [Ld, flC_go]
       rw [Lf (appB_1 _ (by omega) (by omega)), show subI .i64 X.fc (nthI X.fL[k].fQ.fL 0).fj = _ from subI_n (by show _ ≤ X.fc - (hd X.fL[k]).fj; omega) (by show X.fc - (hd X.fL[k]).fj < _; omega), succ_n _ (by omega), addI_n (by omega) (by omega)]
       rfl
   -- one for which the credit isn't enough
   have stop : ∀ (k : Nat) (hk : k < X.fL.length) (v : Bool) (s : Tp) (x : RS), waitsV v X.fL[k] = true → ¬ (hd X.fL[k]).fj ≤ X.fc → SRel s x X.fb (vids X.fL) →
     gh P = some (X.fL[k].fId, true, withS P s) → gE X = some (withR X x, (k : Int)) →
     ∃ P' X' out, loopF gu.loop1 (tupP acc P) = some (.out (acc ++ out, P')) ∧ loopF gal.loop1 ((i : Int), acc, X) = some (.out (X', acc ++ out)) ∧ Rel P' X' t n ∧
       Tr X.fo X.fL X.ff X.fc out X'.fL X'.ff X'.fc ∧ X'.fo = X.fo ∧ X'.fq = X.fq ∧ X'.fe = X.fe ∧ X'.fk = X.fk ∧ X'.fb = X.fb := by
    intro k hk v s x hw hle hs n1 n2
    obtain ⟨r, er⟩ := hd_of hw
    have hmem : X.fL[k] ∈ X.fL := List.getElem_mem hk
    refine ⟨withS P s, withR X x, [], ?_, ?_, h.with hs, .nil (.inr ⟨_, hmem, by rw [er]; exact List.cons_ne_nil _ _, by omega⟩), rfl, rfl, rfl, rfl, rfl⟩
    ·refine Lq ?_
     unfold gu.loop1 tupP
     simp only
     rw [show gh ⟨P.fd, P.fh, ⟨P.fa.fb, P.fa.fm, P.fa.fp, P.fa.fAt, P.fa.fg⟩, P.fc, P.ff⟩ = _ from n1]
     simp only [Ld, notB_f', cond_false, withS]
     rw [h.flows.find hmem, optC_some, first_ok er]
     simp only [Ld]
     rw [ltI_t (by omega), cond_true]
     simp only [List.append_nil]
    ·refine Lq ?_
     unfold gal.loop1
     simp only
     rw [ltI_t (by omega), cond_true, n2]
     simp only [Ld]
     rw [ltI_f (by omega), cond_false, Lf (show InB (k : Int) (lenL (withR X x).fL) from inb_n hk), show nthI (withR X x).fL (k : Int) = X.fL[k] from nthI_n hk, Lf (show InB 0 (lenL X.fL[k].fQ.fL) by rw [er]; exact inb_0 _ _),
      show ltI (withR X x).fc (nthI X.fL[k].fQ.fL 0).fj = true from ltI_t (by show X.fc < (hd X.fL[k]).fj; omega), cond_true]
     simp only [Ld, flC_out, List.append_nil]
   rcases next_both h with ⟨k, hk, hw, hg, e1, e2⟩ | ⟨k, s, x, hk, hw, hg, e1, e2, e3, s2, x2, e4, e5, e6⟩ | ⟨s, x, hall, e1, e2, e3⟩
   ·by_cases hle : (hd X.fL[k]).fj ≤ X.fc
    ·obtain ⟨P', X', out, q1, q2, q3, q4, q5⟩ := step k hk false P.fa P.fa X.fS X.fS (X.ff + 1) hw hle h.sched e1 e2 (fun q => by cases q) (fun _ => ⟨rfl, rfl, rfl⟩)
     exact ⟨P', X', _, q1, q2, q3, .snd k hk hw hg hle q4, q5⟩
    ·exact stop k hk false P.fa X.fS hw hle h.sched e1 e2
   ·by_cases hle : (hd X.fL[k]).fj ≤ X.fc
    ·obtain ⟨P', X', out, q1, q2, q3, q4, q5⟩ := step k hk true s s2 x x2 0 hw hle e6 e1 e2 (fun _ => ⟨e4, e5, rfl⟩) (fun q => by cases q)
     exact ⟨P', X', _, q1, q2, q3, .pic k hk hw hg hle q4, q5⟩
    ·exact stop k hk true s x hw hle e3 e1 e2
   ·have h0 : tot X.fL = 0 := by
     unfold tot
     rw [List.sum_eq_zero_iff_forall_eq_nat]
     intro y hy
     obtain ⟨f, hf, rfl⟩ := List.mem_map.1 hy
     rw [hall f hf]; rfl
    exact ih P X acc i h (by omega) (by omega) (by omega)

theorem run_both {P : Tf} {X : RO} {t : Int} {n : Nat} (h : Rel P X t n) : ∃ P' X' out, gu P = some (out, P') ∧ gal X = some (X', out) ∧ Rel P' X' t n ∧
   Tr X.fo X.fL X.ff X.fc out X'.fL X'.ff X'.fc ∧ X'.fo = X.fo ∧ X'.fq = X.fq ∧ X'.fe = X.fe ∧ X'.fk = X.fk ∧ X'.fb = X.fb := by
 have hc := h.calls
 have hs := h.sounds
 obtain ⟨P', X', out, q1, q2, q3⟩ := run_loop (tot X.fL) P X [] 0 h (Nat.le_refl _) (by omega) (by simp; omega)
 simp only [List.nil_append] at q1 q2
 refine ⟨P', X', out, ?_, ?_, q3⟩
 ·unfold gu
  rw [show loopF gu.loop1 ([], P.fd, P.fc, P.ff, P.fh, P.fa.fb, P.fa.fAt, P.fa.fg, P.fa.fm, P.fa.fp) = _ from q1]
  rfl
 ·unfold gal
  rw [show loopF gal.loop1 (0, [], X) = _ from q2]
  rfl
end Go.Proofs

/- EgressGuard, in plain words: no more than Guard sounds in a row while a picture waits; no more bytes than were granted. No condition but that a flow's number is a number of the language. -/
import Derived.Test.YtnoeflijefijcaaYn
import Derived.Test.YtnoeflijefijcaaGgD
namespace Go.Proofs
open Go.Ab

abbrev GuSt := Int × Int × Int × Int × (List (Int × Int)) × (List (Int × Int)) × Int × Int × Bool × (List (Int × Td)) × Tl × Int × Int × Tb × Int × Int
def tupU (i gr go ro : Int) (P : Tg) (X : RO) (t N : Int) : GuSt := (i, gr, go, ro, (tupS 0 P X t N).2)
def totV (F : List Fw) : Nat := tot (F.filter (·.fq))
theorem totV_app (p r : List Fw) : totV (p ++ r) = totV p + totV r := by unfold totV; rw [List.filter_append, tot_app]
theorem totV_one (f : Fw) : totV [f] = if f.fq = true then f.fQ.fL.length else 0 := by
  unfold totV
  by_cases h : f.fq = true <;> simp [h, tot]
theorem totV_le (F : List Fw) : totV F ≤ tot F := by
  induction F with
  | nil => exact Nat.le_refl _
  | cons f r ih =>
    rw [show f :: r = [f] ++ r from rfl, totV_app, totV_one, tot_app]
    have : tot [f] = f.fQ.fL.length := by simp [tot]
    split <;> omega
theorem totV_set {F : List Fw} {k : Nat} (hk : k < F.length) (q : RQ) : totV (F.set k (withQ F[k] q)) + (if F[k].fq = true then F[k].fQ.fL.length else 0) = totV F + (if F[k].fq = true then q.fL.length else 0) := by
  obtain ⟨p, r, e, _, hs⟩ := split_at hk
  have e2 : totV F = totV p + ((if F[k].fq = true then F[k].fQ.fL.length else 0) + totV r) := by
    conv => lhs; rw [e]
    rw [totV_app, show F[k] :: r = [F[k]] ++ r from rfl, totV_app, totV_one]
  rw [hs, e2, totV_app, show withQ F[k] q :: r = [withQ F[k] q] ++ r from rfl, totV_app, totV_one]
  show totV p + ((if F[k].fq = true then q.fL.length else 0) + totV r) + _ = _
  omega
theorem totV_none {F : List Fw} (h : F.filter (waitsV true) = []) : totV F = 0 := by
  induction F with
  | nil => rfl
  | cons f r ih =>
    rw [List.filter_cons] at h
    by_cases hw : waitsV true f = true
    · rw [if_pos hw] at h; cases h
    · rw [if_neg hw] at h
      rw [show f :: r = [f] ++ r from rfl, totV_app, totV_one, ih h]
      by_cases hv : f.fq = true
      · rw [if_pos hv]
        cases hl : f.fQ.fL with
        | nil => rfl
        | cons x s => exact absurd (by simp [waitsV, hv, hl]) hw
      · rw [if_neg hv]
def Tells (F : List Fw) (sm : List (Int × Int)) : Prop := ∀ f ∈ F, getM eqI f.fId 0 sm = if f.fq = true then 0 else 1
theorem Tells.set {F : List Fw} {sm : List (Int × Int)} (h : Tells F sm) {k : Nat} (hk : k < F.length) (q : RQ) : Tells (F.set k (withQ F[k] q)) sm := by
  intro f hf
  rcases setL_mem hf with rfl | hf
  · exact h F[k] (List.getElem_mem hk)
  · exact h f hf

theorem guard_loop3 {i gr go ro : Int} {P : Tg} {X : RO} {t N : Int} {n : Nat} (h : Rel P X t n) :
    ∃ wm sm, loopF (gc.loop3 (tupU i gr go ro P X t N)) (0, 0, [], []) = some (.go ((totV X.fL : Int), wm, sm)) ∧ Tells X.fL sm := by
  have hlen := h.len
  have hso := h.sounds
  have hca := h.calls
  have hnd : (X.fL.map (·.fId)).Nodup := h.flows.rise.imp fun h => by omega
  have key : ∀ (r p : List Fw) (wm sm : List (Int × Int)), p ++ r = X.fL → Tells p sm → (∀ f ∈ r, getM eqI f.fId 0 sm = 0) →
      ∃ wm' sm', loopF (gc.loop3 (tupU i gr go ro P X t N)) ((p.length : Int), (totV p : Int), wm, sm) = some (.go ((totV X.fL : Int), wm', sm')) ∧ Tells X.fL sm' := by
    intro r
    induction r with
    | nil =>
      intro p wm sm hp h1 _
      rw [List.append_nil] at hp
      subst hp
      refine ⟨wm, sm, Lq ?_, h1⟩
      unfold gc.loop3 tupU tupS
      simp only
      rw [ltI_f (by simp [lenL])]
      rfl
    | cons f r ih =>
      intro p wm sm hp h1 h2
      have hln : X.fL.length = p.length + r.length + 1 := by rw [← hp]; simp; omega
      have hn : nthI X.fL (p.length : Int) = f := by rw [← hp]; exact nthI_mid p f r
      have hin : InB (p.length : Int) (lenL X.fL) := inb_n (by omega)
      have hndp := hnd
      rw [← hp, List.map_append, List.map_cons] at hndp
      have hnp : ∀ g ∈ p, g.fId ≠ f.fId := fun g hg e => (List.nodup_append.1 hndp).2.2 _ (List.mem_map.2 ⟨g, hg, rfl⟩) _ (.head _) e
      have hnr : ∀ g ∈ r, g.fId ≠ f.fId := fun g hg e => (List.nodup_cons.1 (List.nodup_append.1 hndp).2.1).1 (List.mem_map.2 ⟨g, hg, e⟩)
      have htv : totV X.fL ≤ tot X.fL := totV_le _
      have hV : totV X.fL = totV p + (totV [f] + totV r) := by rw [← hp, totV_app, show f :: r = [f] ++ r from rfl, totV_app]
      have hpf : totV (p ++ [f]) = totV p + totV [f] := totV_app _ _
      rw [totV_one] at hV hpf
      by_cases hv : f.fq = true
      · rw [if_pos hv] at hV hpf
        have hstep : gc.loop3 (tupU i gr go ro P X t N) ((p.length : Int), (totV p : Int), wm, sm) = some (.go (((p ++ [f]).length : Int), (totV (p ++ [f]) : Int), setM eqI f.fId (lenL f.fQ.fL) wm, sm)) := by
          unfold gc.loop3 tupU tupS
          simp only
          rw [ltI_t hin.2, cond_true, Le hin, hn, hv, cond_true, Lv _ (by omega), addI_n (by unfold lenL; omega) (by unfold lenL; omega), hpf]
          simp [lenL]
        obtain ⟨wm', sm', e1, e2⟩ := ih (p ++ [f]) (setM eqI f.fId (lenL f.fQ.fL) wm) sm (by simpa using hp) (fun g hg => by
            rcases List.mem_append.1 hg with q | q
            · exact h1 g q
            · rw [List.mem_singleton.1 q, if_pos hv]; exact h2 f (.head _)) (fun g hg => h2 g (.tail _ hg))
        exact ⟨wm', sm', by rw [Lw hstep]; exact e1, e2⟩
      · have hv' : f.fq = false := by simpa using hv
        rw [if_neg hv] at hV hpf
        have hstep : gc.loop3 (tupU i gr go ro P X t N) ((p.length : Int), (totV p : Int), wm, sm) = some (.go (((p ++ [f]).length : Int), (totV (p ++ [f]) : Int), setM eqI f.fId (lenL f.fQ.fL) wm, setM eqI f.fId 1 sm)) := by
          unfold gc.loop3 tupU tupS
          simp only
          rw [ltI_t hin.2, cond_true, Le hin, hn, hv', cond_false, Lv _ (by omega), hpf]
          simp
        obtain ⟨wm', sm', e1, e2⟩ := ih (p ++ [f]) (setM eqI f.fId (lenL f.fQ.fL) wm) (setM eqI f.fId 1 sm) (by simpa using hp) (fun g hg => by
            rw [get_set]
            rcases List.mem_append.1 hg with q | q
            · rw [if_neg (hnp g q)]; exact h1 g q
            · rw [List.mem_singleton.1 q, if_pos rfl, if_neg hv]) (fun g hg => by rw [get_set, if_neg (hnr g hg)]; exact h2 g (.tail _ hg))
        exact ⟨wm', sm', by rw [Lw hstep]; exact e1, e2⟩
  exact key X.fL [] [] [] rfl (fun f hf => by cases hf) (fun f _ => rfl)

theorem guard_loop5 {S : Ts} {all : List Sn} {b : Bool} {v3 : Int × (List (Int × Int)) × (List (Int × Int))} (hl : all.length ≤ 1000000) {g : Int} (hg : S.fX.fp = g) {F F' : List Fw} {so so' cr cr' : Int} {out : List Sn}
    (h : Tr g F so cr out F' so' cr') : ∀ (p : List Sn) (gone : Int), p ++ out = all → Pos F → Tells F v3.2.2 → 0 ≤ so → so + tot F ≤ 100000 → 0 ≤ gone → 0 ≤ cr → gone + cr ≤ 1125899906842624 →
      loopF (gc.loop5 (S, all, b) v3) ((p.length : Int), (totV F : Int), gone, so) = some (.go (gone + sumO out, so')) := by
  induction h with
  | nil _ =>
    intro p gone hp _ _ _ _ _ _ _
    rw [List.append_nil] at hp
    subst hp
    refine Lq ?_
    unfold gc.loop5
    simp only
    rw [ltI_f (by simp [lenL])]
    simp [sumO]
  | @snd F so cr out F' so' cr' k hk hw hgd hle _ ih =>
    intro p gone hp hpos htl h0 h1 h2 h3 h4
    obtain ⟨r, er⟩ := hd_of hw
    have hv := waitsV_v hw
    have hmem := List.getElem_mem hk
    have hsz := hpos _ hmem _ (by rw [er]; exact .head _)
    have hset := set_tot hk (rpop F[k].fQ)
    have hsetV := totV_set hk (rpop F[k].fQ)
    rw [hv] at hsetV
    simp only [Bool.false_eq_true, if_false, Nat.add_zero] at hsetV
    have hl1 : F[k].fQ.fL.length = r.length + 1 := by rw [er]; rfl
    have hl2 : (rpop F[k].fQ).fL.length = r.length := by simp [rpop, er]
    have hlen : all.length = p.length + out.length + 1 := by rw [← hp]; simp; omega
    have hn : nthI all (p.length : Int) = ⟨F[k].fId, hd F[k]⟩ := by rw [← hp]; exact nthI_mid p _ out
    have ht := htl _ hmem
    rw [hv] at ht
    simp only [Bool.false_eq_true, if_false] at ht
    have hno : pickB (ltI 0 (totV F : Int)) (ltI S.fX.fp (so + 1)) false = false := by
      rcases hgd with q | q
      · rw [ltI_f (a := S.fX.fp) (by rw [hg]; omega)]; cases ltI 0 (totV F : Int) <;> rfl
      · rw [totV_none q]; rfl
    have := ih (p ++ [⟨F[k].fId, hd F[k]⟩]) (gone + (hd F[k]).fm) (by simpa using hp) (hpos.pop hk) (htl.set hk _) (by omega) (by omega) (by omega) (by omega) (by omega)
    rw [sumO_cons]
    simp only
    rw [show gone + ((hd F[k]).fm + sumO out) = gone + (hd F[k]).fm + sumO out by omega, ← this]
    refine Lw ?_
    unfold gc.loop5
    simp only
    rw [ltI_t (by unfold lenL; omega), cond_true, Le (inb_n (by omega)), hn]
    simp only
    rw [ht, eqI_f (by decide), cond_false, addI_n (a := so) (by omega) (by omega), hno, cond_false, Lv _ (by omega), addI_n (by omega) (by omega), hsetV]
    simp
  | @pic F so cr out F' so' cr' k hk hw _ hle _ ih =>
    intro p gone hp hpos htl h0 h1 h2 h3 h4
    obtain ⟨r, er⟩ := hd_of hw
    have hv := waitsV_v hw
    have hmem := List.getElem_mem hk
    have hsz := hpos _ hmem _ (by rw [er]; exact .head _)
    have hset := set_tot hk (rpop F[k].fQ)
    have hsetV := totV_set hk (rpop F[k].fQ)
    rw [hv] at hsetV
    simp only [if_true] at hsetV
    have hl1 : F[k].fQ.fL.length = r.length + 1 := by rw [er]; rfl
    have hl2 : (rpop F[k].fQ).fL.length = r.length := by simp [rpop, er]
    have hlen : all.length = p.length + out.length + 1 := by rw [← hp]; simp; omega
    have hn : nthI all (p.length : Int) = ⟨F[k].fId, hd F[k]⟩ := by rw [← hp]; exact nthI_mid p _ out
    have ht := htl _ hmem
    rw [hv] at ht
    simp only [if_true] at ht
    have hvle := totV_le F
    have := ih (p ++ [⟨F[k].fId, hd F[k]⟩]) (gone + (hd F[k]).fm) (by simpa using hp) (hpos.pop hk) (htl.set hk _) (by omega) (by omega) (by omega) (by omega) (by omega)
    rw [sumO_cons]
    simp only
    rw [show gone + ((hd F[k]).fm + sumO out) = gone + (hd F[k]).fm + sumO out by omega, ← this]
    refine Lw ?_
    unfold gc.loop5
    simp only
    rw [ltI_t (by unfold lenL; omega), cond_true, Le (inb_n (by omega)), hn]
    simp only
    rw [ht, eqI_t rfl, cond_true, Lv _ (by omega), addI_n (by omega) (by omega), subI_n (by omega) (by omega), show (totV F : Int) - 1 = (totV (F.set k (withQ F[k] (rpop F[k].fQ))) : Int) by omega]
    simp

theorem egressGuard_plain (x0 x1 : Int) (x2 : List AcT) (w : ∀ x ∈ x2, (Lit.int .i64 x.fId).wf = true) : gc x0 x1 x2 = some true := by
  obtain ⟨c, ec, hc, _⟩ := config_ok x0 x1
  obtain ⟨P0, eb, r0⟩ := begin_ok hc
  have key : ∀ (m k : Nat) (P : Tg) (X : RO) (t N gr go : Int), k + m = 120 → Rel P X t k → 0 ≤ go → go + X.fc ≤ gr → gr ≤ 1099511627776 * k →
      ∃ v, loopF (gc.loop1 x2) (tupU (k : Int) gr go X.fd P X t N) = some (.go v) := by
    intro m
    induction m with
    | zero =>
      intro k P X t N gr go hk hr _ _ _
      refine ⟨(tupS 0 P X t N).2, Lq ?_⟩
      unfold gc.loop1 tupU tupS
      simp only
      rw [pickB_and, ltI_f (a := (k : Int)) (b := 120) (by omega), Bool.and_false, cond_false]
    | succ m ih =>
      intro k P X t N gr go hk hr h1 h2 h3
      by_cases hl : k < x2.length
      · obtain ⟨P', X', t', N', out, e1, e2, d⟩ := does_ok (N := N) hr (by omega) (wf_id (w _ (List.getElem_mem hl)))
        obtain ⟨wm, sm, l3, htl⟩ := guard_loop3 (i := (k : Int)) (gr := gr) (go := go) (ro := X.fd) (N := N) hr
        have hcr := hr.credit
        have hcr' := e2.credit
        have hso := hr.sounds
        -- the granted bytes
        obtain ⟨gr', hgr', hb1, hb2, hb3⟩ : ∃ gr' : Int, (x2[k].fw = 2 → gr' = minI (addI .i64 gr (minI (maxI x2[k].fN 0) 1099511627776)) 1125899906842624) ∧ (x2[k].fw ≠ 2 → gr' = gr) ∧ gr' ≤ 1099511627776 * ((k + 1 : Nat) : Int) ∧
            (x2[k].fw = 2 → gr' = gr + min (max x2[k].fN 0) 1099511627776) := by
          by_cases h2' : x2[k].fw = 2
          · refine ⟨gr + min (max x2[k].fN 0) 1099511627776, fun _ => ?_, fun q => absurd h2' q, by omega, fun _ => rfl⟩
            rw [minI_d, minI_d, maxI_d, addI_n (by omega) (by omega)]
            omega
          · exact ⟨gr, fun q => absurd q h2', fun _ => rfl, by omega, fun q => absurd q h2'⟩
        -- what goes out
        have hout : ∃ go', loopF (gc.loop5 (⟨P', X', t', N'⟩, out, true) ((totV X.fL : Int), wm, sm)) (0, (totV X.fL : Int), go, X.fd) = some (.go (go', X'.fd)) ∧ 0 ≤ go' ∧ go' + X'.fc ≤ gr' := by
          by_cases k3 : x2[k].fw = 3
          · have tr := d.run k3
            obtain ⟨s1, s2, s3⟩ := tr_sum tr hr.pos
            have hol := out_len tr
            have hg1 := hb1 (by omega)
            refine ⟨go + sumO out, guard_loop5 (v3 := ((totV X.fL : Int), wm, sm)) (by omega) (show X'.fp = X.fp from d.cfg.guard) tr [] go rfl hr.pos htl hso.2.1 (by omega) h1 hcr.2.1 (by omega), by omega, by omega⟩
          · obtain ⟨rfl, hss⟩ := d.off k3
            refine ⟨go, ?_, h1, ?_⟩
            · rw [hss]
              refine Lq ?_
              unfold gc.loop5
              simp only
              rw [ltI_f (by simp [lenL])]
              rfl
            · by_cases k2 : x2[k].fw = 2
              · have := d.gave k2
                have := hb3 k2
                omega
              · have := d.cred k2 k3
                have := hb1 k2
                omega
        obtain ⟨go', l5, g1, g2⟩ := hout
        obtain ⟨v, hv⟩ := ih (k + 1) P' X' t' N' gr' go' (by omega) e2 g1 g2 hb2
        refine ⟨v, ?_⟩
        rw [← hv]
        refine Lw ?_
        unfold gc.loop1
        simp only [tupU]
        rw [ltI_t (by unfold lenL; omega), ltI_t (by omega), show pickB true true false = true from rfl, cond_true, show loopF (gc.loop3 ((k : Int), gr, go, X.fd, (tupS 0 P X t N).2)) (0, 0, [], []) = _ from l3]
        simp only [Ld, flC_go, tupS]
        rw [Le (inb_n hl), nthI_n hl, show gy ⟨⟨P.fe, P.fg, ⟨P.fa.fb, P.fa.fj, P.fa.fk, P.fa.fAt, P.fa.ff⟩, P.fc, P.fd⟩, X, t, N⟩ x2[k] = _ from e1]
        simp only [Ld, notB_f', cond_false]
        rw [Le (inb_n hl)]
        by_cases k2 : x2[k].fw = 2
        · rw [eqI_t k2, cond_true, Le (inb_n hl), ← hgr' k2]
          simp only [Ld, flC_go]
          rw [l5]
          simp only [Ld, flC_go]
          rw [ltI_f (by omega), cond_false, Lv _ (by omega)]
          rfl
        · rw [eqI_f k2, cond_false, ← hb1 k2]
          simp only [Ld, flC_go]
          rw [l5]
          simp only [Ld, flC_go]
          rw [ltI_f (by omega), cond_false, Lv _ (by omega)]
          rfl
      · refine ⟨(tupS 0 P X t N).2, Lq ?_⟩
        unfold gc.loop1 tupU tupS
        simp only
        rw [ltI_f (b := lenL x2) (by unfold lenL; omega), show ∀ b, pickB false b false = false from fun b => rfl, cond_false]
  obtain ⟨v, hv⟩ := key 120 0 P0 (x0F c) 0 0 0 0 rfl r0 (by omega) (by show (0 : Int) + 0 ≤ 0; omega) (by omega)
  unfold gc
  rw [ec]
  simp only [Ld]
  rw [eb]
  simp only [Ld]
  rw [awake_ok]
  simp only [Ld]
  rw [show pickB (notB true) true (notB true) = false from rfl, cond_false, show loopF (gc.loop1 x2) (0, 0, 0, 0, P0.fa.fj, P0.fa.fk, P0.fa.fb, P0.fa.fAt, P0.fa.ff, P0.fg, P0.fe, P0.fc, P0.fd, x0F c, 0, 0) = _ from hv]
  rfl
end Go.Proofs

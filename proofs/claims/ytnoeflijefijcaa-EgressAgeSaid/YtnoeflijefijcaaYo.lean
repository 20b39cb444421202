/- EgressAge, in plain words: behind a tick nothing waits too long. No condition but that a flow's number is a number of the language. -/
import Derived.Test.YtnoeflijefijcaaM06
import Derived.Test.YtnoeflijefijcaaGaD
namespace Go.Proofs
open Go.Ab

abbrev AgeSt := Int × Int × Int × (List (Int × Int)) × (List (Int × Int)) × Int × Int × Bool × (List (Int × Td)) × Tl × Int × Int × Tb × Int × Int
def tupG (i ta lo : Int) (P : Tg) (X : RO) (t N : Int) : AgeSt := (i, ta, lo, (tupS 0 P X t N).2)

theorem sum_loop {T : Type} {X : RO} {n : Nat} (hn : tot X.fL ≤ n) (hn2 : n ≤ 1000) (hl : X.fL.length ≤ 1000) {body : Int × Int → Option (Fl (Int × Int) (Fl Int T))}
    (hb : ∀ k (hk : k < X.fL.length) (v : Int), body ((k : Int), v) = some (.go (addI .i64 (k : Int) 1, addI .i64 v (lenL X.fL[k].fQ.fL)))) (he : ∀ v, body ((X.fL.length : Int), v) = some (.out (.go v))) :
    loopF body (0, 0) = some (.go (tot X.fL : Int)) := by
  have key : ∀ (r p : List Fw), p ++ r = X.fL → loopF body ((p.length : Int), (tot p : Int)) = some (.go (tot X.fL : Int)) := by
    intro r
    induction r with
    | nil =>
      intro p hp
      rw [List.append_nil] at hp
      rw [hp]
      exact Lq (he _)
    | cons f r ih =>
      intro p hp
      have hlen : X.fL.length = p.length + r.length + 1 := by rw [← hp]; simp; omega
      have hk : p.length < X.fL.length := by omega
      have hf : X.fL[p.length] = f := by
        have := nthI_n hk
        rw [← this, ← hp]
        exact nthI_mid p f r
      have ht : tot X.fL = tot p + (f.fQ.fL.length + tot r) := by rw [← hp, tot_app, tot_cons]
      have h1 := hb p.length hk (tot p : Int)
      rw [hf, Lv _ (by omega), addI_n (by unfold lenL; omega) (by unfold lenL; omega)] at h1
      have h2 : ((p.length + 1 : Nat) : Int) = ((p ++ [f]).length : Int) := by simp
      have h3 : (tot p : Int) + lenL f.fQ.fL = (tot (p ++ [f]) : Int) := by rw [tot_app, tot_cons]; unfold lenL; simp [tot]
      rw [h2, h3] at h1
      rw [Lw h1]
      exact ih (p ++ [f]) (by simpa using hp)
  exact key X.fL [] rfl

theorem waits_ok {P : Tg} {X : RO} {t : Int} {n : Nat} (h : Rel P X t n) {f : Fw} (hf : f ∈ X.fL) : gL P f.fId = some (lenL f.fQ.fL, sumS f.fQ.fL) := by
  unfold gL
  rw [h.flows.find hf, optC_some, len_ok, qsize_ok]
  rfl

theorem egressAge_plain (x0 x1 : Int) (x2 : List AcT) (w : ∀ x ∈ x2, (Lit.int .i64 x.fId).wf = true) : gf x0 x1 x2 = some true := by
  obtain ⟨c, ec, hc, _, hage⟩ := config_ok x0 x1
  obtain ⟨P0, eb, r0⟩ := begin_ok hc
  have key : ∀ (m k : Nat) (P : Tg) (X : RO) (t N ta lo : Int), k + m = 100 → Rel P X t k → X.fu ≤ 32 → ta - lo = tot X.fL → 0 ≤ lo → ta ≤ 1000 * k →
      ∃ P' X' t' N' n' ta' lo', loopF (gf.loop1 x2) (tupG (k : Int) ta lo P X t N) = some (.go (tupG 0 ta' lo' P' X' t' N').2) ∧ Rel P' X' t' n' ∧ X'.fu ≤ 32 ∧ lo' ≤ ta' := by
    intro m
    induction m with
    | zero =>
      intro k P X t N ta lo hk hr ha h1 h2 h3
      refine ⟨P, X, t, N, k, ta, lo, Lq ?_, hr, ha, by omega⟩
      unfold gf.loop1 tupG tupS
      simp only
      rw [pickB_and, ltI_f (a := (k : Int)) (b := 100) (by omega), Bool.and_false, cond_false]
    | succ m ih =>
      intro k P X t N ta lo hk hr ha h1 h2 h3
      by_cases hl : k < x2.length
      · obtain ⟨a, ha4, hid⟩ : ∃ a : AcT, (bif eqI x2[k].fw 2 then some (Fl.go (Th.mk 4 x2[k].fId x2[k].fN x2[k].fz x2[k].fq)) else some (.go x2[k]) : Option (Fl Th (Fl (Int × Int × (List (Int × Int)) × (List (Int × Int)) × Int × Int × Bool × (List (Int × Td)) × Tl × Int × Int × Tb × Int × Int) (Fl (Int × Int × Int × (List (Int × Int)) × (List (Int × Int)) × Int × Int × Bool × (List (Int × Td)) × Tl × Int × Int × Tb × Int × Int) (Fl (Int × Int × (List (Int × Int)) × (List (Int × Int)) × Int × Int × Bool × (List (Int × Td)) × Tl × Int × Int × Tb × Int × Int) Bool))))) = some (.go a) ∧ a.fId = x2[k].fId := by
          by_cases h2 : x2[k].fw = 2
          · exact ⟨⟨4, x2[k].fId, x2[k].fN, x2[k].fz, x2[k].fq⟩, by rw [eqI_t h2]; rfl, rfl⟩
          · exact ⟨x2[k], by rw [eqI_f h2]; rfl, rfl⟩
        obtain ⟨P', X', t', N', out, e1, e2, d⟩ := does_ok (N := N) (a := a) hr (by omega) (by rw [hid]; exact wf_id (w _ (List.getElem_mem hl)))
        have hs := hr.sounds
        have hs' := e2.sounds
        have hlen := hr.len
        have hlen' := e2.len
        have hca := e2.calls
        have l4 : loopF (gf.loop4 (tupG (k : Int) ta lo P X t N)) (0, 0) = some (.go (tot X.fL : Int)) := sum_loop (n := k) (by omega) (by omega) hlen (fun j hj v => by
            unfold gf.loop4 tupG tupS
            simp only
            rw [ltI_t (by unfold lenL; omega), cond_true, Le (inb_n hj), nthI_n hj])
          (fun v => by unfold gf.loop4 tupG tupS; simp only; rw [ltI_f (by unfold lenL; omega)]; rfl)
        have l5 : loopF (gf.loop5 (⟨P', X', t', N'⟩, out, true) a) (0, 0) = some (.go (tot X'.fL : Int)) := sum_loop (n := k + 1) (by omega) (by omega) hlen' (fun j hj v => by
            have hmem := List.getElem_mem hj
            unfold gf.loop5
            simp only
            rw [ltI_t (by unfold lenL; omega), cond_true, Le (inb_n hj), nthI_n hj, waits_ok e2 hmem]
            simp only [Ld]
            by_cases h4 : a.fw = 4
            · cases hq : X'.fL[j].fQ.fL with
              | nil =>
                rw [eqI_t h4, ltI_f (by simp [lenL]), Le (show Under _ true _ from fun h => by cases h)]
                rfl
              | cons y r =>
                have hfr := d.tick h4 _ hmem y r hq
                rw [eqI_t h4, ltI_t (by unfold lenL; rw [List.length_cons]; omega), Le (Lx (inb_0 y r)), nthI_0, leI_f (by rw [d.cfg.age]; exact hfr)]
                rfl
            · rw [eqI_f h4, show ∀ b, pickB false b false = false from fun b => rfl, Le (show Under false true _ from fun h => by cases h)]
              rfl)
          (fun v => by unfold gf.loop5; simp only; rw [ltI_f (by unfold lenL; omega)]; rfl)
        obtain ⟨P2, X2, t2, N2, n2, ta2, lo2, q1, q2⟩ := ih (k + 1) P' X' t' N' (ta + max ((tot X'.fL : Int) - tot X.fL) 0) (lo + max ((tot X.fL : Int) - tot X'.fL) 0) (by omega) e2 (by rw [d.cfg.age]; exact ha) (by omega) (by omega) (by omega)
        refine ⟨P2, X2, t2, N2, n2, ta2, lo2, ?_, q2⟩
        rw [← q1]
        refine Lw ?_
        unfold gf.loop1
        simp only [tupG]
        rw [ltI_t (by unfold lenL; omega), ltI_t (by omega), show pickB true true false = true from rfl, cond_true, Le (inb_n hl), nthI_n hl, ha4]
        simp only [Ld, flC_go]
        rw [show loopF (gf.loop4 ((k : Int), ta, lo, (tupS 0 P X t N).2)) (0, 0) = _ from l4]
        simp only [Ld, flC_go, tupS]
        rw [show gy ⟨⟨P.fe, P.fg, ⟨P.fa.fb, P.fa.fj, P.fa.fk, P.fa.fAt, P.fa.ff⟩, P.fc, P.fd⟩, X, t, N⟩ a = _ from e1]
        simp only [Ld, notB_f', cond_false]
        rw [l5]
        simp only [Ld, flC_go]
        rw [Lv _ (by omega), maxI_d, maxI_d, subI_n (by omega) (by omega), subI_n (by omega) (by omega), addI_n (by omega) (by omega), addI_n (by omega) (by omega)]
      · refine ⟨P, X, t, N, k, ta, lo, Lq ?_, hr, ha, by omega⟩
        unfold gf.loop1 tupG tupS
        simp only
        rw [ltI_f (b := lenL x2) (by unfold lenL; omega), show ∀ b, pickB false b false = false from fun b => rfl, cond_false]
  obtain ⟨P1, X1, t1, N1, n1, ta1, lo1, hv, r1, ha1, hlt⟩ := key 100 0 P0 (x0F c) 0 0 0 0 rfl r0 hage (by simp [x0F, tot]) (by omega) (by omega)
  have hti := r1.time
  have hca1 := r1.calls
  have hlen1 := r1.len
  obtain ⟨P2, X2, l, k1, k2, r2, k3, k4, k5, k6, hfr, hrest⟩ := tick_both r1 (t1 + 64)
  have hget := hrest.get
  have h64 : addI .i64 t1 64 = t1 + 64 := addI_n (by omega) (by omega)
  have l6 : loopF (gf.loop6 (l, P2) (tupG 0 ta1 lo1 P1 X1 t1 N1).2) 0 = some (.go ()) := by
    have hsc := scan_ok (N := X1.fL.length) (body := gf.loop6 (l, P2) (tupG 0 ta1 lo1 P1 X1 t1 N1).2) (fun _ => false) (fun _ => false) (by omega) (fun k hk => by
        have hk' : k < X2.fL.length := by rw [hget.1]; exact hk
        have hro := hget.2 k hk hk'
        have hmem := List.getElem_mem hk'
        have hempty : X2.fL[k].fQ.fL = [] := by
          cases hq : X2.fL[k].fQ.fL with
          | nil => rfl
          | cons y r =>
            exfalso
            have h1 := hfr _ hmem y r hq
            have h2 := r2.items _ hmem y (by rw [hq]; exact .head _)
            rw [subI_n (by omega) (by omega)] at h1
            omega
        unfold gf.loop6 tupG tupS
        simp only
        rw [ltI_t (by unfold lenL; omega), cond_true, Le (inb_n hk), nthI_n hk, hro.1, waits_ok r2 hmem]
        simp only [Ld]
        rw [hempty, neI_f (by simp [lenL]), neI_f (by simp), Lv _ (by omega)]
        rfl)
      (by unfold gf.loop6 tupG tupS; simp only; rw [ltI_f (by unfold lenL; omega)]; rfl)
    rcases hsc with ⟨k, hk, ht, _⟩ | ⟨_, e⟩
    · cases ht
    · exact e
  unfold gf
  rw [ec]
  simp only [Ld]
  rw [eb]
  simp only [Ld]
  rw [awake_ok]
  simp only [Ld]
  rw [show pickB (notB true) true (notB true) = false from rfl, cond_false, show loopF (gf.loop1 x2) (0, 0, 0, P0.fa.fj, P0.fa.fk, P0.fa.fb, P0.fa.fAt, P0.fa.ff, P0.fg, P0.fe, P0.fc, P0.fd, x0F c, 0, 0) = _ from hv]
  simp only [Ld, flC_go]
  rw [show gq ⟨(tupG 0 ta1 lo1 P1 X1 t1 N1).2.2.2.2.2.2.2.2.2.1, (tupG 0 ta1 lo1 P1 X1 t1 N1).2.2.2.2.2.2.2.2.1, ⟨(tupG 0 ta1 lo1 P1 X1 t1 N1).2.2.2.2.2.1, (tupG 0 ta1 lo1 P1 X1 t1 N1).2.2.2.1, (tupG 0 ta1 lo1 P1 X1 t1 N1).2.2.2.2.1, (tupG 0 ta1 lo1 P1 X1 t1 N1).2.2.2.2.2.2.1, (tupG 0 ta1 lo1 P1 X1 t1 N1).2.2.2.2.2.2.2.1⟩,
    (tupG 0 ta1 lo1 P1 X1 t1 N1).2.2.2.2.2.2.2.2.2.2.1, (tupG 0 ta1 lo1 P1 X1 t1 N1).2.2.2.2.2.2.2.2.2.2.2.1⟩ (addI .i64 (tupG 0 ta1 lo1 P1 X1 t1 N1).2.2.2.2.2.2.2.2.2.2.2.2.2.1 64) = some (l, P2) from by
      show gq P1 (addI .i64 t1 64) = _
      rw [h64]; exact k1]
  simp only [Ld]
  rw [l6]
  simp only [Ld, flC_go]
  rw [leI_t (show (tupG 0 ta1 lo1 P1 X1 t1 N1).2.2.1 ≤ (tupG 0 ta1 lo1 P1 X1 t1 N1).2.1 from hlt)]
end Go.Proofs

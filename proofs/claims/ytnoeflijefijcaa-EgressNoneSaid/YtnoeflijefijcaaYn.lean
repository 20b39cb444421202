/- EgressNone, in plain words: with no credit nothing that has a size goes out. No condition but that a flow's number is a number of the language. -/
import Derived.Test.YtnoeflijefijcaaM06
import Derived.Test.YtnoeflijefijcaaGnD
namespace Go.Proofs
open Go.Ab
def Pos (F : List Fw) : Prop := ∀ f ∈ F, ∀ x ∈ f.fQ.fL, 0 ≤ x.fm
theorem Pos.pop {F : List Fw} (h : Pos F) {k : Nat} (hk : k < F.length) : Pos (F.set k (withQ F[k] (rpop F[k].fQ))) := by
  intro f hf x hx
  rcases setL_mem hf with rfl | hf
  · exact h _ (List.getElem_mem hk) x (List.mem_of_mem_drop hx)
  · exact h f hf x hx
theorem Rel.pos {P : Tg} {X : RO} {t : Int} {n : Nat} (h : Rel P X t n) : Pos X.fL := fun f hf x hx => (h.flows.ok f hf).size x hx
def sumO (out : List Sn) : Int := (out.map (·.fC.fm)).sum
theorem sumO_cons (x : Sn) (out : List Sn) : sumO (x :: out) = x.fC.fm + sumO out := by simp [sumO]
theorem tr_sum {g : Int} {F F' : List Fw} {so so' cr cr' : Int} {out : List Sn} (h : Tr g F so cr out F' so' cr') (hp : Pos F) : cr' + sumO out = cr ∧ (∀ x ∈ out, 0 ≤ x.fC.fm) ∧ 0 ≤ sumO out := by
  induction h with
  | nil _ => exact ⟨by simp [sumO], (fun x hx => by cases hx), by simp [sumO]⟩
  | snd k hk hw _ _ _ ih =>
    obtain ⟨r, er⟩ := hd_of hw
    have h0 := hp _ (List.getElem_mem hk) _ (by rw [er]; exact .head _)
    obtain ⟨i1, i2, i3⟩ := ih (hp.pop hk)
    rw [sumO_cons]
    refine ⟨by simp only; omega, fun x hx => ?_, by simp only; omega⟩
    rcases List.mem_cons.1 hx with rfl | hx
    · exact h0
    · exact i2 x hx
  | pic k hk hw _ _ _ ih =>
    obtain ⟨r, er⟩ := hd_of hw
    have h0 := hp _ (List.getElem_mem hk) _ (by rw [er]; exact .head _)
    obtain ⟨i1, i2, i3⟩ := ih (hp.pop hk)
    rw [sumO_cons]
    refine ⟨by simp only; omega, fun x hx => ?_, by simp only; omega⟩
    rcases List.mem_cons.1 hx with rfl | hx
    · exact h0
    · exact i2 x hx
theorem sumO_le {out : List Sn} (h : ∀ x ∈ out, 0 ≤ x.fC.fm) : ∀ x ∈ out, x.fC.fm ≤ sumO out := by
  induction out with
  | nil => intro x hx; cases hx
  | cons y r ih =>
    intro x hx
    have h1 := ih fun z hz => h z (.tail _ hz)
    have h2 : 0 ≤ sumO r := by
      clear ih h1 hx
      induction r with
      | nil => simp [sumO]
      | cons z r ih2 =>
        rw [sumO_cons]
        have := h z (.tail _ (.head _))
        have := ih2 fun w hw => h w (by
          rcases List.mem_cons.1 hw with rfl | hw
          · exact .head _
          · exact .tail _ (.tail _ hw))
        omega
    have h3 := h y (.head _)
    rw [sumO_cons]
    rcases List.mem_cons.1 hx with rfl | hx
    · omega
    · have := h1 x hx
      omega

theorem none_loop4 {S : Ts} {out : List Sn} {b : Bool} (hl : out.length ≤ 1000000) (h : ∀ x ∈ out, x.fC.fm = 0) : loopF (gl.loop4 (S, out, b)) 0 = some (.go ()) := by
  have hsc := scan_ok (N := out.length) (body := gl.loop4 (S, out, b)) (fun _ => false) (fun _ => .out (.out (.out false))) hl (fun k hk => by
      unfold gl.loop4
      simp only
      rw [ltI_t (by unfold lenL; omega), cond_true, Le (inb_n hk), nthI_n hk, neI_f (h _ (List.getElem_mem hk)), cond_false, Lv _ (by omega)]
      rfl)
    (by unfold gl.loop4; simp only; rw [ltI_f (by unfold lenL; omega)]; rfl)
  rcases hsc with ⟨k, hk, ht, _⟩ | ⟨_, e⟩
  · cases ht
  · exact e

theorem egressNone_plain (x0 x1 : Int) (x2 : List AcT) (w : ∀ x ∈ x2, (Lit.int .i64 x.fId).wf = true) : gl x0 x1 x2 = some true := by
  obtain ⟨c, ec, hc, _⟩ := config_ok x0 x1
  obtain ⟨P0, eb, r0⟩ := begin_ok hc
  have key : ∀ (m k : Nat) (P : Tg) (X : RO) (t N : Int), k + m = 80 → Rel P X t k → X.fc = 0 → ∃ P' X' t' N' n', loopF (gl.loop1 x2) (tupS (k : Int) P X t N) = some (.go (tupS 0 P' X' t' N').2) ∧ Rel P' X' t' n' ∧ X'.fc = 0 := by
    intro m
    induction m with
    | zero =>
      intro k P X t N hk hr hcr
      refine ⟨P, X, t, N, k, Lq ?_, hr, hcr⟩
      unfold gl.loop1 tupS
      simp only
      rw [pickB_and, ltI_f (a := (k : Int)) (b := 80) (by omega), Bool.and_false, cond_false]
    | succ m ih =>
      intro k P X t N hk hr hcr
      by_cases hl : k < x2.length
      · obtain ⟨a, ha, hid, hk2⟩ : ∃ a : AcT, (bif eqI x2[k].fw 2 then some (Fl.go (Th.mk 3 x2[k].fId x2[k].fN x2[k].fz x2[k].fq)) else some (.go x2[k]) : Option (Fl Th (Fl ((List (Int × Int)) × (List (Int × Int)) × Int × Int × Bool × (List (Int × Td)) × Tl × Int × Int × Tb × Int × Int) (Fl (Int × (List (Int × Int)) × (List (Int × Int)) × Int × Int × Bool × (List (Int × Td)) × Tl × Int × Int × Tb × Int × Int) (Fl ((List (Int × Int)) × (List (Int × Int)) × Int × Int × Bool × (List (Int × Td)) × Tl × Int × Int × Tb × Int × Int) Bool))))) = some (.go a) ∧ a.fId = x2[k].fId ∧ a.fw ≠ 2 := by
          by_cases h2 : x2[k].fw = 2
          · exact ⟨⟨3, x2[k].fId, x2[k].fN, x2[k].fz, x2[k].fq⟩, by rw [eqI_t h2]; rfl, rfl, by show (3 : Int) ≠ 2; decide⟩
          · exact ⟨x2[k], by rw [eqI_f h2]; rfl, rfl, h2⟩
        obtain ⟨P', X', t', N', out, e1, e2, d⟩ := does_ok (N := N) (a := a) hr (by omega) (by rw [hid]; exact wf_id (w _ (List.getElem_mem hl)))
        have hz : X'.fc = 0 ∧ (∀ x ∈ out, x.fC.fm = 0) ∧ out.length ≤ 1000000 := by
          by_cases h3 : a.fw = 3
          · have tr := d.run h3
            obtain ⟨s1, s2, s3⟩ := tr_sum tr hr.pos
            have hle := sumO_le s2
            have hcr' := e2.credit
            have hol := out_len tr
            have hso := hr.sounds
            have hca := hr.calls
            refine ⟨by omega, fun x hx => ?_, by omega⟩
            have := hle x hx
            have := s2 x hx
            omega
          · obtain ⟨rfl, _⟩ := d.off h3
            exact ⟨by rw [d.cred hk2 h3, hcr], (fun x hx => by cases hx), by simp⟩
        obtain ⟨P2, X2, t2, N2, n2, q1, q2⟩ := ih (k + 1) P' X' t' N' (by omega) e2 hz.1
        refine ⟨P2, X2, t2, N2, n2, ?_, q2⟩
        rw [← q1]
        refine Lw ?_
        unfold gl.loop1 tupS
        simp only
        rw [ltI_t (by unfold lenL; omega), ltI_t (by omega), show pickB true true false = true from rfl, cond_true, Le (inb_n hl), nthI_n hl, ha]
        simp only [Ld, flC_go]
        rw [show gy ⟨⟨P.fe, P.fg, ⟨P.fa.fb, P.fa.fj, P.fa.fk, P.fa.fAt, P.fa.ff⟩, P.fc, P.fd⟩, X, t, N⟩ a = _ from e1]
        simp only [Ld]
        have hcre : gp P' = some 0 := by unfold gp; rw [e2.credit.1, hz.1]
        rw [hcre, Le (some_u' _), getD_so, neI_f rfl, show pickB (notB true) true false = false from rfl, cond_false, none_loop4 hz.2.2 hz.2.1]
        simp only [Ld, flC_go]
        rw [Lv _ (by omega)]
      · refine ⟨P, X, t, N, k, Lq ?_, hr, hcr⟩
        unfold gl.loop1 tupS
        simp only
        rw [ltI_f (b := lenL x2) (by unfold lenL; omega), show ∀ b, pickB false b false = false from fun b => rfl, cond_false]
  obtain ⟨P1, X1, t1, N1, n1, hv, r1, hc1⟩ := key 80 0 P0 (x0F c) 0 0 rfl r0 rfl
  have hcr : P1.fc = 0 := by rw [r1.credit.1, hc1]
  unfold gl
  rw [ec]
  simp only [Ld]
  rw [eb]
  simp only [Ld]
  rw [awake_ok]
  simp only [Ld]
  rw [show pickB (notB true) true (notB true) = false from rfl, cond_false, show loopF (gl.loop1 x2) (0, P0.fa.fj, P0.fa.fk, P0.fa.fb, P0.fa.fAt, P0.fa.ff, P0.fg, P0.fe, P0.fc, P0.fd, x0F c, 0, 0) = _ from hv]
  simp only [Ld, flC_go, tupS]
  have hs : ∀ (v : Int) (b : Bool) (q : Int), pickB (ltI v 0) true (ltI 0 v) = b → subI .i64 0 v = q → gu ⟨P1.fe, P1.fg, ⟨P1.fa.fb, P1.fa.fj, P1.fa.fk, P1.fa.fAt, P1.fa.ff⟩, P1.fc, P1.fd⟩ v =
      some (bif b then (false, P1) else (true, ⟨P1.fe, P1.fg, P1.fa, q, P1.fd⟩)) := by
    intro v b q hb hq
    unfold gu
    simp only [hcr, hb, hq]
    cases b
    · rfl
    · simp only [cond_true]
      rw [← hcr]
  have hq0 : (⟨P1.fe, P1.fg, P1.fa, 0, P1.fd⟩ : Tg) = P1 := by rw [← hcr]
  have s1 := hs 1 true (-1) (by decide) (by decide)
  have s0 := hs 0 false 0 (by decide) (by decide)
  have sm := hs (-1) true 1 (by decide) (by decide)
  rw [s1]
  simp only [Ld, cond_true, notB_t']
  rw [show gu P1 0 = _ from s0]
  simp only [Ld, cond_false, cond_true]
  rw [hq0, show gu P1 (-1) = _ from sm]
  rfl
end Go.Proofs

/- What these functions compute, as plain functions. No condition. -/
import Derived.Test.YtpjplfnapgpfmaaGreatTs
import Derived.Test.YtpjplfnapgpfmaaGreatM13
import Derived.Test.YtpjplfnapgpfmaaGreatM04
import Derived.Test.YtpjplfnapgpfmaaGreatM06
import Derived.Test.YtpjplfnapgpfmaaGreatM14
import Derived.Test.YtpjplfnapgpfmaaGreatYr
section
namespace Go.Proofs
open Go.Ab
noncomputable def ge.loop1 (x2 : List Tq) (s1 : Int × (List (Int × Int)) × (List (Int × Int)) × Int × Int × Bool × (List (Int × Tj)) × Ts × Int × Int × Tc × Int × Int) : Option (Fl (Int × (List (Int × Int)) × (List (Int × Int)) × Int × Int × Bool × (List (Int × Tj)) × Ts × Int × Int × Tc × Int × Int) (Fl ((List (Int × Int)) × (List (Int × Int)) × Int × Int × Bool × (List (Int × Tj)) × Ts × Int × Int × Tc × Int × Int) Bool)) :=
 bif (pickB (ltI s1.1 (lenL x2)) (ltI s1.1 60) false) then (
  need (InB s1.1 (lenL x2)) <|
  ((gP (Tu.mk (Tf.mk s1.2.2.2.2.2.2.2.1 s1.2.2.2.2.2.2.1 (Tp.mk s1.2.2.2.1 s1.2.1 s1.2.2.1 s1.2.2.2.2.1 s1.2.2.2.2.2.1) s1.2.2.2.2.2.2.2.2.1 s1.2.2.2.2.2.2.2.2.2.1) s1.2.2.2.2.2.2.2.2.2.2.1 s1.2.2.2.2.2.2.2.2.2.2.2.1 s1.2.2.2.2.2.2.2.2.2.2.2.2) (nthI x2 s1.1))).bind fun r4 =>
  bif (notB r4.2.2) then (
   some (.out (.out false))
  ) else (
    some (.go ((addI .i64 s1.1 1), r4.1.fO.fa.fm, r4.1.fO.fa.fp, r4.1.fO.fa.fb, r4.1.fO.fa.fAt, r4.1.fO.fa.fg, r4.1.fO.fh, r4.1.fO.fd, r4.1.fO.fc, r4.1.fO.ff, r4.1.fX, r4.1.fC, r4.1.fN))
  )
 ) else (
   some (.out (.go (s1.2.1, s1.2.2.1, s1.2.2.2.1, s1.2.2.2.2.1, s1.2.2.2.2.2.1, s1.2.2.2.2.2.2.1, s1.2.2.2.2.2.2.2.1, s1.2.2.2.2.2.2.2.2.1, s1.2.2.2.2.2.2.2.2.2.1, s1.2.2.2.2.2.2.2.2.2.2.1, s1.2.2.2.2.2.2.2.2.2.2.2.1, s1.2.2.2.2.2.2.2.2.2.2.2.2)))
 )

noncomputable def ge.loop2 (v1 : (List (Int × Int)) × (List (Int × Int)) × Int × Int × Bool × (List (Int × Tj)) × Ts × Int × Int × Tc × Int × Int) (s2 : Int × Int) : Option (Fl (Int × Int) (Fl Int Bool)) :=
 bif (ltI s2.1 (lenL v1.2.2.2.2.2.2.2.2.2.1.fL)) then (
  need (InB s2.1 (lenL v1.2.2.2.2.2.2.2.2.2.1.fL)) <|
  some (.go ((addI .i64 s2.1 1), (addI .i64 s2.2 (lenL ((nthI v1.2.2.2.2.2.2.2.2.2.1.fL s2.1).fQ.fL)))))
 ) else (
   some (.out (.go s2.2))
 )

noncomputable def ge.loop3 (r6 : List Tb × Tf) (v1 : (List (Int × Int)) × (List (Int × Int)) × Int × Int × Bool × (List (Int × Tj)) × Ts × Int × Int × Tc × Int × Int) (s3 : Int) : Option (Fl Int (Fl Unit Bool)) :=
 bif (ltI s3 (lenL v1.2.2.2.2.2.2.2.2.2.1.fL)) then (
  need (InB s3 (lenL v1.2.2.2.2.2.2.2.2.2.1.fL)) <|
  ((gaf r6.2 ((nthI v1.2.2.2.2.2.2.2.2.2.1.fL s3).fId))).bind fun r7 =>
  bif (pickB (neI r7.1 0) true (neI r7.2 0)) then (
   some (.out (.out false))
  ) else (
    some (.go (addI .i64 s3 1))
  )
 ) else (
   some (.out (.go ()))
 )

noncomputable def ge (x0 : Int) (x1 : Int) (x2 : List Tq) : Option Bool :=
 (gaW).bind fun r1 =>
 bif (notB r1) then (
  some false
 ) else (
   ((gay x0 x1)).bind fun r2 =>
   ((gaO r2)).bind fun r3 =>
   bif (notB r3.2) then (
    some false
   ) else (
     ((loopF (ge.loop1 x2) (0, r3.1.fO.fa.fm, r3.1.fO.fa.fp, r3.1.fO.fa.fb, r3.1.fO.fa.fAt, r3.1.fO.fa.fg, r3.1.fO.fh, r3.1.fO.fd, r3.1.fO.fc, r3.1.fO.ff, r3.1.fX, r3.1.fC, r3.1.fN)).bind fun f => flC f fun (v1 : (List (Int × Int)) × (List (Int × Int)) × Int × Int × Bool × (List (Int × Tj)) × Ts × Int × Int × Tc × Int × Int) =>
       ((loopF (ge.loop2 v1) (0, 0)).bind fun f => flC f fun (v2 : Int) =>
         ((gK (Tf.mk v1.2.2.2.2.2.2.1 v1.2.2.2.2.2.1 (Tp.mk v1.2.2.1 v1.1 v1.2.1 v1.2.2.2.1 v1.2.2.2.2.1) v1.2.2.2.2.2.2.2.1 v1.2.2.2.2.2.2.2.2.1) 1073741824)).bind fun r5 =>
         ((gu r5)).bind fun r6 =>
         ((loopF (ge.loop3 r6 v1) 0).bind fun f => flC f fun (_v3 : Unit) =>
           bif (eqI (lenL r6.1) v2) then (
            ((gu r6.2)).bind fun r8 =>
            some (eqI (lenL r8.1) 0)
           ) else (
             some false
           )
         )
       )
     )
   )
 )
end Go.Proofs
end
section
namespace Go.Proofs
open Go.Ab
abbrev AcT := Tq

theorem RestL.get {p q : List Fw} (h : RestL p q) : q.length = p.length ∧ ∀ (k : Nat) (hk : k < p.length) (hk' : k < q.length), RestOf p[k] q[k] := by
 induction h with
 | nil => exact ⟨rfl, fun k hk => absurd hk (by simp)⟩
 | cons h1 _ ih =>
   refine ⟨by simp [ih.1], fun k hk hk' => ?_⟩
   cases k with
   | zero => exact h1
   | succ k => exact ih.2 k (by simpa using hk) (by simpa using hk')
def From (X : RO) (k N' : Int) (f' : Fw) : Prop := f'.fQ.fL = [] ∨ ∃ f ∈ X.fL, f.fId = f'.fId ∧ ∃ d, d ++ f'.fQ.fL = f.fQ.fL ∨ (k = 1 ∧ ∃ x : It, x.fN = N' ∧ d ++ f'.fQ.fL = f.fQ.fL ++ [x])
theorem From.same {X : RO} {k N' : Int} {f : Fw} (h : f ∈ X.fL) : From X k N' f := .inr ⟨f, h, rfl, [], .inl rfl⟩
structure Did (a : AcT) (X X' : RO) (t' N N' : Int) (out : List Sn) : Prop where
 cfg : Cfg X X'
 num : N' = if a.fz = 1 then addI .i64 N 1 else N
 flows : a.fz ≠ 3 → ∀ f' ∈ X'.fL, From X a.fz N' f'
 run : a.fz = 3 → Tr X.fo X.fL X.ff X.fc out X'.fL X'.ff X'.fc
 off : a.fz ≠ 3 → out = [] ∧ X'.ff = X.ff
 cred : a.fz ≠ 2 → a.fz ≠ 3 → X'.fc = X.fc
 gave : a.fz = 2 → X'.fc ≤ X.fc + min (max a.fN 0) 1099511627776
 tick : a.fz = 4 → ∀ f ∈ X'.fL, Fresh t' X.fq f

theorem out_len {g : Int} {F F' : List Fw} {so so' cr cr' : Int} {out : List Sn} (h : Tr g F so cr out F' so' cr') : out.length + tot F' = tot F := by
 have hpop : ∀ {F : List Fw} (k : Nat) (hk : k < F.length) {v : Bool}, waitsV v F[k] = true → tot (F.set k (withQ F[k] (rpop F[k].fQ))) + 1 = tot F := fun {F} k hk {v} hw => by
  obtain ⟨r, er⟩ := hd_of hw
  have := set_tot hk (rpop F[k].fQ)
  have h1 : F[k].fQ.fL.length = r.length + 1 := by rw [er]; rfl
  have h2 : (rpop F[k].fQ).fL.length = r.length := by simp [rpop, er]
  omega
 induction h with
 | nil _ => simp
 | snd k hk hw _ _ _ ih => have := hpop k hk hw; simp only [List.length_cons]; omega
 | pic k hk hw _ _ _ ih => have := hpop k hk hw; simp only [List.length_cons]; omega

section
variable {P : Tf} {X : RO} {t : Int} {n : Nat} {N : Int} {a : AcT}

theorem and15 (b : Int) : 0 ≤ bitsOp .and .i64 b 15 ∧ bitsOp .and .i64 b 15 ≤ 15 := by
 rw [and_mask' (j := 4) (by omega) b 15 (by decide)]
 omega

theorem does_ok (h : Rel P X t n) (hn : n + 1 ≤ 1000) (hid : -9223372036854775808 ≤ a.fId ∧ a.fId ≤ 9223372036854775807) :
  ∃ P' X' t' N' out, gP ⟨P, X, t, N⟩ a = some (⟨P', X', t', N'⟩, out, true) ∧ Rel P' X' t' (n + 1) ∧ Did a X X' t' N N' out := by
 have hcr := h.credit
 have hti := h.time
 by_cases k1 : a.fz = 1
 ·obtain ⟨P', X', l, b, p1, p2, p3, p4, p5, p6, p7, p8⟩ := put_both h hn a.fId ⟨addI .i64 N 1, a.fN, t, a.fy⟩ rfl
  have hfl : ∀ f' ∈ X'.fL, From X a.fz (addI .i64 N 1) f' := fun f' hf' => by
   rcases p8 with ⟨rfl, _⟩ | ⟨k, hk, q, _, e, _, d, hd⟩
   ·exact From.same hf'
   ·rw [e] at hf'
    rcases setL_mem hf' with rfl | hf'
    ·refine .inr ⟨X.fL[k], List.getElem_mem hk, rfl, d, ?_⟩
     rcases hd with hd | hd
     ·exact .inl hd
     ·exact .inr ⟨k1, _, rfl, hd⟩
    ·exact From.same hf'
  refine ⟨P', X', t, addI .i64 N 1, [], ?_, p3, p5, by rw [if_pos k1], fun _ => hfl, fun q => by omega, fun _ => ⟨rfl, p7⟩, fun _ _ => p6, fun q => by omega, fun q => by omega⟩
  unfold gP
  simp only
  rw [eqI_t k1, cond_true, p1]
  simp only [Ld]
  rw [p2]
  simp only [Ld]
  rw [same_ok (by omega), Lf (some_u' _), eqB_d]
  simp [pickB, eqI_t]
 by_cases k2 : a.fz = 2
 ·have hmm : 0 ≤ min (max a.fN 0) 1099511627776 ∧ min (max a.fN 0) 1099511627776 ≤ 1099511627776 := by omega
  -- the spending
  obtain ⟨P1, X1, c1, ⟨c2, cF⟩, c3, c4, c5⟩ : ∃ P1 X1, Rel P1 X1 t n ∧ (Cfg X X1 ∧ X1.fL = X.fL) ∧ X1.ff = X.ff ∧ X1.fc ≤ X.fc ∧
    gP ⟨P, X, t, N⟩ a = ((gK P1 a.fN).bind fun r4 => some ((Tu.mk r4 (Tc.mk X1.fe X1.fk X1.fq X1.fb X1.fo X1.fL X1.fS (minI (addI .i64 X1.fc (minI (maxI a.fN 0) 1099511627776)) 1099511627776) X1.ff) t N), [], true)) := by
   by_cases hk : a.fy = true
   ·by_cases hs : 0 ≤ a.fId ∧ a.fId ≤ X.fc
    ·refine ⟨⟨P.fd, P.fh, P.fa, P.fc - a.fId, P.ff⟩, ⟨X.fe, X.fk, X.fq, X.fb, X.fo, X.fL, X.fS, X.fc - a.fId, X.ff⟩,
      ⟨h.cfg, h.frames, h.bytes, h.most, h.guard, h.flows, h.qcfg, h.items, h.sched, ⟨by simp only; rw [hcr.1], by simp only; omega⟩, h.sounds, h.many, h.time, h.calls⟩, ⟨⟨rfl, rfl, rfl, rfl, rfl⟩, rfl⟩, rfl, by simp only; omega, ?_⟩
     have hsp : gab P a.fId = some (true, ⟨P.fd, P.fh, P.fa, P.fc - a.fId, P.ff⟩) := by
      unfold gab
      rw [ltI_f (by omega), ltI_f (by omega), subI_n (by omega) (by omega)]
      rfl
     unfold gP
     simp only
     rw [eqI_f k1, cond_false, eqI_t k2, cond_true, hk, cond_true, hsp]
     simp only [Ld]
     rw [leI_t hs.1, leI_t hs.2, show neB true (pickB true true false) = false from rfl, cond_false, cond_true, subI_n (by omega) (by omega)]
     rfl
    ·refine ⟨P, X, h, ⟨Cfg.refl X, rfl⟩, rfl, Int.le_refl _, ?_⟩
     have hsp : gab P a.fId = some (false, P) := by
      unfold gab
      rw [pickB_or]
      by_cases h0 : a.fId < 0
      ·rw [ltI_t h0]; rfl
      ·rw [ltI_t (a := P.fc) (by omega)]; simp
     have hc : pickB (leqI 0 a.fId) (leqI a.fId X.fc) false = false := by
      rw [pickB_and, leI_d, leI_d]
      simp only [Bool.and_eq_false_iff, decide_eq_false_iff_not]
      omega
     unfold gP
     simp only
     rw [eqI_f k1, cond_false, eqI_t k2, cond_true, hk, cond_true, hsp]
     simp only [Ld]
     rw [hc]
     rfl
   ·refine ⟨P, X, h, ⟨Cfg.refl X, rfl⟩, rfl, Int.le_refl _, ?_⟩
    have hk' : a.fy = false := by simpa using hk
    unfold gP
    simp only
    rw [eqI_f k1, cond_false, eqI_t k2, cond_true, hk', cond_false]
    rfl
  have hcr1 := c1.credit
  have hg : minI (addI .i64 X1.fc (minI (maxI a.fN 0) 1099511627776)) 1099511627776 = min (X1.fc + min (max a.fN 0) 1099511627776) 1099511627776 := by
   rw [minI_d, minI_d, maxI_d, addI_n (by omega) (by omega)]
  have hrel : Rel ⟨P1.fd, P1.fh, P1.fa, min (X1.fc + min (max a.fN 0) 1099511627776) 1099511627776, P1.ff⟩
    ⟨X1.fe, X1.fk, X1.fq, X1.fb, X1.fo, X1.fL, X1.fS, min (X1.fc + min (max a.fN 0) 1099511627776) 1099511627776, X1.ff⟩ t n :=
   ⟨c1.cfg, c1.frames, c1.bytes, c1.most, c1.guard, c1.flows, c1.qcfg, c1.items, c1.sched, ⟨rfl, by simp only; omega⟩, c1.sounds, c1.many, c1.time, c1.calls⟩
  refine ⟨_, _, t, N, [], ?_, hrel.mono (by omega) hn, ⟨c2.frames, c2.bytes, c2.age, c2.most, c2.guard⟩, by rw [if_neg k1], fun _ f' hf' => From.same (cF ▸ hf'), fun q => by omega, fun _ => ⟨rfl, c3⟩, fun q => absurd k2 q, fun _ => by simp only; omega, fun q => by omega⟩
  rw [c5]
  unfold gK
  rw [hcr1.1, hg]
  rfl
 by_cases k3 : a.fz = 3
 ·obtain ⟨P', X', out, p1, p2, p3, p4, g1, g2, g3, g4, g5⟩ := run_both h
  have hol := out_len p4
  have hso := h.sounds
  refine ⟨P', X', t, N, out, ?_, p3.mono (by omega) hn, ⟨g3, g4, g2, g5, g1⟩, by rw [if_neg k1], fun q => absurd k3 q, fun _ => p4, fun q => absurd k3 q, fun _ q => absurd k3 q, fun q => absurd q k2, fun q => by omega⟩
  unfold gP
  simp only
  rw [eqI_f k1, cond_false, eqI_f k2, cond_false, eqI_t k3, cond_true, p1]
  simp only [Ld]
  rw [p2]
  simp only [Ld]
  rw [same_ok (by omega)]
  rfl
 by_cases k4 : a.fz = 4
 ·have hb := and15 a.fN
  have ht' : addI .i64 t (bitsOp .and .i64 a.fN 15) = t + bitsOp .and .i64 a.fN 15 := addI_n (by omega) (by omega)
  obtain ⟨P', X', l, p1, p2, p3, p4, p5, p6, p7, p8, p9⟩ := tick_both (h.later (t' := t + bitsOp .and .i64 a.fN 15) (by omega) (by omega) hn) (t + bitsOp .and .i64 a.fN 15)
  have hfl : ∀ f' ∈ X'.fL, From X a.fz N f' := fun f' hf' => by
   obtain ⟨q1, q2⟩ := p9.get
   obtain ⟨k, hk, rfl⟩ := List.mem_iff_getElem.1 hf'
   have hk' : k < X.fL.length := by omega
   obtain ⟨z1, z2, d, hd⟩ := q2 k hk' hk
   exact .inr ⟨X.fL[k], List.getElem_mem hk', z1, d, .inl hd⟩
  refine ⟨P', X', t + bitsOp .and .i64 a.fN 15, N, [], ?_, p3, p5, by rw [if_neg k1], fun _ => hfl, fun q => absurd q k3, fun _ => ⟨rfl, p7⟩, fun _ _ => p6, fun q => absurd q k2, fun _ => p8⟩
  unfold gP
  simp only
  rw [eqI_f k1, cond_false, eqI_f k2, cond_false, eqI_f k3, cond_false, eqI_t k4, cond_true, ht', p1]
  simp only [Ld]
  rw [p2]
  simp only [Ld]
  rw [same_ok (by omega)]
  rfl
 by_cases k567 : a.fz = 5 ∨ a.fz = 6 ∨ a.fz = 7
 ·have hfl : ∃ P' X', gaC ⟨P, X, t, N⟩ a = some (⟨P', X', t, N⟩, true) ∧ Rel P' X' t (n + 1) ∧ Cfg X X' ∧ X'.fc = X.fc ∧ X'.ff = X.ff ∧ (∀ f' ∈ X'.fL, From X a.fz N f') := by
   by_cases k5 : a.fz = 5
   ·obtain ⟨P', X', e, p1, p2, p3, p4, p5, p6, _, _, _, p7⟩ := add_both h hn hid a.fu a.fN
    refine ⟨P', X', ?_, p3, p4, p5, p6, fun f' hf' => ?_⟩
    rotate_left
    ·rcases p7 with ⟨rfl, _⟩ | ⟨q, _⟩
     ·exact From.same hf'
     ·rw [q] at hf'
      rcases List.mem_cons.1 ((insG_perm _ _ _).mem_iff.1 hf') with rfl | hf'
      ·exact .inl rfl
      ·exact From.same hf'
    unfold gaC
    simp only
    rw [eqI_t k5, cond_true, p1]
    simp only [Ld]
    rw [p2]
    simp only [Ld]
    rw [eqI_t rfl]
   by_cases k6 : a.fz = 6
   ·obtain ⟨P', X', l, e, p1, p2, p3, pl, p4, p5, p6, p7⟩ := remove_both h a.fId
    refine ⟨P', X', ?_, p3.mono (by omega) hn, p4, p5, p6, fun f' hf' => ?_⟩
    rotate_left
    ·rcases p7 with rfl | ⟨p, f, r, q1, _, q2⟩
     ·exact From.same hf'
     ·rw [q2] at hf'
      refine From.same ?_
      rw [q1]
      rcases List.mem_append.1 hf' with z | z
      ·exact List.mem_append_left _ z
      ·exact List.mem_append_right _ (.tail _ z)
    unfold gaC
    simp only
    rw [eqI_f k5, cond_false, eqI_t k6, cond_true, p1]
    simp only [Ld]
    rw [p2]
    simp only [Ld]
    rw [same_ok (by omega), Lf (some_u' _), eqI_t rfl]
    simp [pickB, eqI_t]
   ·obtain ⟨P', X', l, p1, p2, p3, pl, p4, p5, p6, p7⟩ := break_both h a.fId
    refine ⟨P', X', ?_, p3.mono (by omega) hn, p4, p5, p6, fun f' hf' => ?_⟩
    rotate_left
    ·rcases p7 with rfl | ⟨k, hk, _, q⟩
     ·exact From.same hf'
     ·rw [q] at hf'
      rcases setL_mem hf' with rfl | hf'
      ·exact .inl rfl
      ·exact From.same hf'
    unfold gaC
    simp only
    rw [eqI_f k5, cond_false, eqI_f k6, cond_false, p1]
    simp only [Ld]
    rw [p2]
    simp only [Ld]
    rw [same_ok (by omega)]
    simp only [Ld]
    rw [eqI_t rfl]
  obtain ⟨P', X', p1, p2, p3, p4, p5, p6⟩ := hfl
  refine ⟨P', X', t, N, [], ?_, p2, p3, by rw [if_neg k1], fun _ => p6, fun q => absurd q k3, fun _ => ⟨rfl, p5⟩, fun _ _ => p4, fun q => absurd q k2, fun q => absurd q k4⟩
  unfold gP
  simp only
  rw [eqI_f k1, cond_false, eqI_f k2, cond_false, eqI_f k3, cond_false, eqI_f k4, cond_false]
  have hv : (bif eqI a.fz 5 then some (Fl.go true) else bif eqI a.fz 6 then some (Fl.go true) else some (Fl.go (eqI a.fz 7)) : Option (Fl Bool (Fl (Ts × Int × Int × (List (Int × Tj)) × Int × Int × Bool × (List (Int × Int)) × (List (Int × Int)) × Tc × Tq) (Tu × List Tb × Bool)))) = some (Fl.go true) := by
   rcases k567 with q | q | q
   ·rw [eqI_t q]; rfl
   ·rw [eqI_f (by omega), eqI_t q]; rfl
   ·rw [eqI_f (by omega), eqI_f (by omega), eqI_t q]; rfl
  rw [hv]
  simp only [Ld, flC_go, cond_true, p1, flC_out]
 ·refine ⟨P, X, t, N, [], ?_, h.mono (by omega) hn, Cfg.refl X, by rw [if_neg k1], fun _ f' hf' => From.same hf', fun q => absurd q k3, fun _ => ⟨rfl, rfl⟩, fun _ _ => rfl, fun q => absurd q k2, fun q => absurd q k4⟩
  unfold gP
  simp only
  rw [eqI_f k1, cond_false, eqI_f k2, cond_false, eqI_f k3, cond_false, eqI_f k4, cond_false, eqI_f (b := 5) (by omega), eqI_f (b := 6) (by omega), eqI_f (b := 7) (by omega)]
  rfl
end
end Go.Proofs
end
section
namespace Go.Proofs
open Go.Ab
structure CfgOk (c : Ts) : Prop where
 frames : 1 ≤ c.fe ∧ c.fe ≤ 1024
 bytes : 1 ≤ c.fk ∧ c.fk ≤ 16777216
 age : 1 ≤ c.fq ∧ c.fq ≤ 1099511627776
 most : 1 ≤ c.fb ∧ c.fb ≤ 16777216
 guard : 1 ≤ c.fo ∧ c.fo ≤ 1024
def x0F (c : Ts) : RO := ⟨c.fe, c.fk, c.fq, c.fb, c.fo, [], ⟨c.fb, [], 0, false⟩, 0, 0⟩

theorem new20_ok {c : Ts} (h : CfgOk c) : gW c = some 0 ∧ ∃ P, gaM c = some (some P, 0) ∧ Rel P (x0F c) 0 0 := by
 obtain ⟨h1, h2, h3, h4, h5⟩ := h
 have hc : gW c = some 0 := by
  unfold gW
  rw [ltI_f (by omega), ltI_f (by omega), ltI_f (by omega), ltI_f (by omega), ltI_f (by omega), ltI_f (by omega), ltI_f (by omega), ltI_f (by omega), ltI_f (by omega), ltI_f (by omega)]
  rfl
 obtain ⟨s, e1, e2⟩ := new_ok (mo := c.fb) h4.1 h4.2
 refine ⟨hc, ⟨c, [], s, 0, 0⟩, ?_, ?_⟩
 ·unfold gaM
  rw [hc]
  simp only [Ld]
  rw [neI_f rfl, cond_false, e1]
  simp only [Ld, optC_some]
  rw [neI_f rfl, cond_false]
 ·exact ⟨rfl, h1, h2, h4, h5, ⟨.refl _, .nil, (fun f hf => by cases hf), (fun f hf => by cases hf), by simp [x0F]⟩, (fun f hf => by cases hf), (fun f hf => by cases hf),
   ⟨_, _, _, _, e2, rfl, fun y => ⟨Int.le_refl _, .inl (show (0 : Int) ≤ c.fb by omega)⟩, (fun i hi => by cases hi), fun i hi => ⟨rfl, rfl⟩⟩, ⟨rfl, by show (0 : Int) ≤ 0; decide, by show (0 : Int) ≤ 1099511627776; decide⟩,
   ⟨rfl, by show (0 : Int) ≤ 0; decide, by show (0 : Int) + (tot [] : Nat) ≤ (0 : Nat); decide⟩, by simp [x0F], by decide, by decide⟩

theorem grant_rel {P : Tf} {X : RO} {t : Int} {n : Nat} (h : Rel P X t n) {c : Int} (hc : 0 ≤ c ∧ c ≤ 1099511627776) :
  Rel ⟨P.fd, P.fh, P.fa, c, P.ff⟩ ⟨X.fe, X.fk, X.fq, X.fb, X.fo, X.fL, X.fS, c, X.ff⟩ t n :=
 ⟨h.cfg, h.frames, h.bytes, h.most, h.guard, h.flows, h.qcfg, h.items, h.sched, ⟨rfl, hc⟩, h.sounds, h.many, h.time, h.calls⟩

/-! ### The first example -/

theorem config_ok (a b : Int) : ∃ c, gay a b = some c ∧ CfgOk c ∧ c.fe ≤ 8 ∧ c.fq ≤ 32 := by
 refine ⟨⟨1 + a % 8, 16 + b % 64, 1 + shrI .i64 a 3 % 32, 1 + shrI .i64 b 6 % 32, 1 + shrI .i64 a 8 % 4⟩, ?_, ⟨?_, ?_, ?_, ?_, ?_⟩, ?_, ?_⟩
 ·unfold gay
  rw [Lf (show NonN 3 from by unfold NonN; decide), Lf (show NonN 6 from by unfold NonN; decide), Lf (show NonN 8 from by unfold NonN; decide),
   and_mask' (j := 3) (by omega) a 7 (by decide), and_mask' (j := 6) (by omega) b 63 (by decide), and_mask' (j := 5) (by omega) (shrI .i64 a 3) 31 (by decide), and_mask' (j := 5) (by omega) (shrI .i64 b 6) 31 (by decide),
   and_mask' (j := 2) (by omega) (shrI .i64 a 8) 3 (by decide)]
  simp only [show (2 : Int) ^ 3 = 8 from by decide, show (2 : Int) ^ 6 = 64 from by decide, show (2 : Int) ^ 5 = 32 from by decide, show (2 : Int) ^ 2 = 4 from by decide]
  rw [addI_n (by omega) (by omega), addI_n (by omega) (by omega), addI_n (by omega) (by omega), addI_n (by omega) (by omega), addI_n (by omega) (by omega)]
 all_goals (simp only; omega)

theorem begin_ok {c : Ts} (h : CfgOk c) : ∃ P, gaO c = some (⟨P, x0F c, 0, 0⟩, true) ∧ Rel P (x0F c) 0 0 := by
 obtain ⟨_, P, e, r⟩ := new20_ok h
 refine ⟨P, ?_, r⟩
 unfold gaO
 rw [e]
 simp only [Ld, optC_some]
 rw [eqI_t rfl]
 rfl
end Go.Proofs
end

/- What these functions compute, as plain functions. No condition. -/
import Derived.Test.YtnoeflijefijcaaTs
import Derived.Test.YtnoeflijefijcaaM04
import Derived.Test.YtnoeflijefijcaaYh
import Derived.Test.YtnoeflijefijcaaGl
section
namespace Go.Proofs
open Go.Ab
noncomputable def gU.loop1 (x2 : List Th) (s1 : Int × (List (Int × Int)) × (List (Int × Int)) × Int × Int × Bool × (List (Int × Td)) × Tl × Int × Int × Tb × Int × Int) : Option (Fl (Int × (List (Int × Int)) × (List (Int × Int)) × Int × Int × Bool × (List (Int × Td)) × Tl × Int × Int × Tb × Int × Int) (Fl ((List (Int × Int)) × (List (Int × Int)) × Int × Int × Bool × (List (Int × Td)) × Tl × Int × Int × Tb × Int × Int) Bool)) :=
 bif (pickB (ltI s1.1 (lenL x2)) (ltI s1.1 120) false) then (
  need (InB s1.1 (lenL x2)) <|
  ((gy (Ts.mk (Tg.mk s1.2.2.2.2.2.2.2.1 s1.2.2.2.2.2.2.1 (Tq.mk s1.2.2.2.1 s1.2.1 s1.2.2.1 s1.2.2.2.2.1 s1.2.2.2.2.2.1) s1.2.2.2.2.2.2.2.2.1 s1.2.2.2.2.2.2.2.2.2.1) s1.2.2.2.2.2.2.2.2.2.2.1 s1.2.2.2.2.2.2.2.2.2.2.2.1 s1.2.2.2.2.2.2.2.2.2.2.2.2) (nthI x2 s1.1))).bind fun r4 =>
  need (Under (notB r4.2.2) false ((gat r4.1).isSome = true)) <|
  bif (pickB (notB r4.2.2) true (neI ((gat r4.1).getD dflt) 0)) then (
   some (.out (.out false))
  ) else (
   some (.go ((addI .i64 s1.1 1), r4.1.fO.fa.fj, r4.1.fO.fa.fk, r4.1.fO.fa.fb, r4.1.fO.fa.fAt, r4.1.fO.fa.ff, r4.1.fO.fg, r4.1.fO.fe, r4.1.fO.fc, r4.1.fO.fd, r4.1.fX, r4.1.fB, r4.1.fN))
  )
 ) else (
  some (.out (.go (s1.2.1, s1.2.2.1, s1.2.2.2.1, s1.2.2.2.2.1, s1.2.2.2.2.2.1, s1.2.2.2.2.2.2.1, s1.2.2.2.2.2.2.2.1, s1.2.2.2.2.2.2.2.2.1, s1.2.2.2.2.2.2.2.2.2.1, s1.2.2.2.2.2.2.2.2.2.2.1, s1.2.2.2.2.2.2.2.2.2.2.2.1, s1.2.2.2.2.2.2.2.2.2.2.2.2)))
 )

noncomputable def gU (x0 : Int) (x1 : Int) (x2 : List Th) : Option Bool :=
 ((gQ x0 x1)).bind fun r1 =>
 ((gan r1)).bind fun r2 =>
 (gE).bind fun r3 =>
 bif (pickB (notB r3) true (notB r2.2)) then (
  some false
 ) else (
  ((loopF (gU.loop1 x2) (0, r2.1.fO.fa.fj, r2.1.fO.fa.fk, r2.1.fO.fa.fb, r2.1.fO.fa.fAt, r2.1.fO.fa.ff, r2.1.fO.fg, r2.1.fO.fe, r2.1.fO.fc, r2.1.fO.fd, r2.1.fX, r2.1.fB, r2.1.fN)).bind fun f => flC f fun (_v1 : (List (Int × Int)) × (List (Int × Int)) × Int × Int × Bool × (List (Int × Td)) × Tl × Int × Int × Tb × Int × Int) =>
   some true
  )
 )
end Go.Proofs
end
section
namespace Go.Proofs
open Go.Ab
structure CfgOk (c : Tl) : Prop where
  frames : 1 ≤ c.fh ∧ c.fh ≤ 1024
  bytes : 1 ≤ c.fo ∧ c.fo ≤ 16777216
  age : 1 ≤ c.fu ∧ c.fu ≤ 1099511627776
  most : 1 ≤ c.fb ∧ c.fb ≤ 16777216
  guard : 1 ≤ c.fp ∧ c.fp ≤ 1024
def x0F (c : Tl) : RO := ⟨c.fh, c.fo, c.fu, c.fb, c.fp, [], ⟨c.fb, [], 0, false⟩, 0, 0⟩

theorem new20_ok {c : Tl} (h : CfgOk c) : gK c = some 0 ∧ ∃ P, gar c = some (some P, 0) ∧ Rel P (x0F c) 0 0 := by
  obtain ⟨h1, h2, h3, h4, h5⟩ := h
  have hc : gK c = some 0 := by
    unfold gK
    rw [ltI_f (by omega), ltI_f (by omega), ltI_f (by omega), ltI_f (by omega), ltI_f (by omega), ltI_f (by omega), ltI_f (by omega), ltI_f (by omega), ltI_f (by omega), ltI_f (by omega)]
    rfl
  obtain ⟨s, e1, e2⟩ := new_ok (mo := c.fb) h4.1 h4.2
  refine ⟨hc, ⟨c, [], s, 0, 0⟩, ?_, ?_⟩
  · unfold gar
    rw [hc]
    simp only [Ld]
    rw [neI_f rfl, cond_false, e1]
    simp only [Ld, optC_some]
    rw [neI_f rfl, cond_false]
  · exact ⟨rfl, h1, h2, h4, h5, ⟨.refl _, .nil, (fun f hf => by cases hf), (fun f hf => by cases hf), by simp [x0F]⟩, (fun f hf => by cases hf), (fun f hf => by cases hf),
      ⟨_, _, _, _, e2, rfl, fun y => ⟨Int.le_refl _, .inl (show (0 : Int) ≤ c.fb by omega)⟩, (fun i hi => by cases hi), fun i hi => ⟨rfl, rfl⟩⟩, ⟨rfl, by show (0 : Int) ≤ 0; decide, by show (0 : Int) ≤ 1099511627776; decide⟩,
      ⟨rfl, by show (0 : Int) ≤ 0; decide, by show (0 : Int) + (tot [] : Nat) ≤ (0 : Nat); decide⟩, by simp [x0F], by decide, by decide⟩

theorem grant_rel {P : Tg} {X : RO} {t : Int} {n : Nat} (h : Rel P X t n) {c : Int} (hc : 0 ≤ c ∧ c ≤ 1099511627776) :
    Rel ⟨P.fe, P.fg, P.fa, c, P.fd⟩ ⟨X.fh, X.fo, X.fu, X.fb, X.fp, X.fL, X.fS, c, X.fd⟩ t n :=
  ⟨h.cfg, h.frames, h.bytes, h.most, h.guard, h.flows, h.qcfg, h.items, h.sched, ⟨rfl, hc⟩, h.sounds, h.many, h.time, h.calls⟩
theorem put_room {q : RQ} (h : QOk q) {x : It} (h0 : 0 ≤ x.fm) (h1 : (q.fL.length : Int) < q.fh) (h2 : sumS q.fL + x.fm ≤ q.fb) (h3 : q.fv = false ∨ x.fz = true) :
    gX q x = some (⟨q.fh, q.fb, q.fL ++ [x], false⟩, [], true) := by
  have hm := h.most
  have hs := sumS_nn h.size
  have hsm := h.small
  have e := size_ok (l := q.fL) (by omega) h.size (by omega)
  have hb : pickB q.fv (notB x.fz) false = false := by rcases h3 with q | q <;> rw [q] <;> simp [pickB, notB]
  have hl : loopF (gX.loop1 x) ([], q) = some (.go ([], q)) := by
    refine Lq ?_
    unfold gX.loop1
    simp only [e, Option.getD_some]
    rw [leI_f (by unfold lenL; omega), Le (some_u _), subI_n (by omega) (by omega), ltI_f (by omega)]
    rfl
  unfold gX
  rw [ltI_f (by omega), ltI_f (by omega), hb, hl]
  simp only [show pickB (pickB false true false) true false = false from rfl, cond_false, Ld, flC_go, hb]
  rw [Le (appB_0 _ (by omega) (by omega)), Le (appB_1 _ (by omega) (by omega))]
  rfl

/-! ### The first example -/
def FF (a b : List It) : List Fw := [⟨1, false, ⟨9, 99, a, false⟩⟩, ⟨2, true, ⟨9, 99, b, false⟩⟩]
theorem ff_step {a b : List It} {so cr : Int} {out : List Sn} {F' : List Fw} {so' cr' : Int} (h : Tr 2 (FF a b) so cr out F' so' cr') :
    (out = [] ∧ cr' = cr ∧ ((a = [] ∧ b = []) ∨ (∃ x r, a = x :: r ∧ cr < x.fm) ∨ (∃ x r, b = x :: r ∧ cr < x.fm))) ∨
    (∃ x r out', a = x :: r ∧ (so < 2 ∨ b = []) ∧ out = ⟨1, x⟩ :: out' ∧ Tr 2 (FF r b) (so + 1) (cr - x.fm) out' F' so' cr') ∨
    (∃ x r out', b = x :: r ∧ (a = [] ∨ ¬ so < 2) ∧ out = ⟨2, x⟩ :: out' ∧ Tr 2 (FF a r) 0 (cr - x.fm) out' F' so' cr') := by
  have fF : (FF a b).filter (waitsV false) = if a = [] then [] else [⟨1, false, ⟨9, 99, a, false⟩⟩] := by cases a <;> simp [FF, waitsV]
  have fT : (FF a b).filter (waitsV true) = if b = [] then [] else [⟨2, true, ⟨9, 99, b, false⟩⟩] := by cases b <;> simp [FF, waitsV]
  cases h with
  | nil he =>
    refine .inl ⟨rfl, rfl, ?_⟩
    rcases he with he | ⟨f, hf, h1, h2⟩
    · exact .inl ⟨he ⟨1, false, ⟨9, 99, a, false⟩⟩ (.head _), he ⟨2, true, ⟨9, 99, b, false⟩⟩ (.tail _ (.head _))⟩
    · rcases List.mem_cons.1 hf with rfl | hf
      · cases a with
        | nil => exact absurd rfl h1
        | cons x r => exact .inr (.inl ⟨x, r, rfl, h2⟩)
      · rw [List.mem_singleton.1 hf] at h1 h2
        cases b with
        | nil => exact absurd rfl h1
        | cons x r => exact .inr (.inr ⟨x, r, rfl, h2⟩)
  | snd k hk hw hg hle h' =>
    refine .inr (.inl ?_)
    rcases k with _ | _ | k
    · cases a with
      | nil => simp [FF, waitsV] at hw
      | cons x r =>
        refine ⟨x, r, _, rfl, ?_, rfl, h'⟩
        rw [fT] at hg
        rcases hg with q | q
        · exact .inl q
        · right
          by_cases hb : b = []
          · exact hb
          · rw [if_neg hb] at q; cases q
    · simp [FF, waitsV] at hw
    · simp [FF] at hk; omega
  | pic k hk hw hg hle h' =>
    refine .inr (.inr ?_)
    rcases k with _ | _ | k
    · simp [FF, waitsV] at hw
    · cases b with
      | nil => simp [FF, waitsV] at hw
      | cons x r =>
        refine ⟨x, r, _, rfl, ?_, rfl, h'⟩
        rw [fF] at hg
        rcases hg with q | q
        · left
          by_cases ha : a = []
          · exact ha
          · rw [if_neg ha] at q; cases q
        · exact .inr q
    · simp [FF] at hk; omega

def sI (i : Int) : It := ⟨i, 1, 0, true⟩
def pI : It := ⟨9, 5, 0, true⟩
theorem ff_all {out : List Sn} {F' : List Fw} {so' cr' : Int} (h : Tr 2 (FF [sI 0, sI 1, sI 2] [pI]) 0 100 out F' so' cr') : out = [⟨1, sI 0⟩, ⟨1, sI 1⟩, ⟨2, pI⟩, ⟨1, sI 2⟩] ∧ cr' = 92 := by
  rcases ff_step h with ⟨_, _, q⟩ | ⟨x, r, o1, e, _, rfl, h1⟩ | ⟨x, r, o1, e, q, _⟩
  · rcases q with ⟨q, _⟩ | ⟨x, r, e, q⟩ | ⟨x, r, e, q⟩
    · cases q
    · cases e; exact absurd q (by decide)
    · cases e; exact absurd q (by decide)
  · cases e
    rcases ff_step h1 with ⟨_, _, q⟩ | ⟨x, r, o2, e, _, rfl, h2⟩ | ⟨x, r, o2, e, q, _⟩
    · rcases q with ⟨q, _⟩ | ⟨x, r, e, q⟩ | ⟨x, r, e, q⟩
      · cases q
      · cases e; exact absurd q (by decide)
      · cases e; exact absurd q (by decide)
    · cases e
      rcases ff_step h2 with ⟨_, _, q⟩ | ⟨x, r, o3, e, q, rfl, h3⟩ | ⟨x, r, o3, e, _, rfl, h3⟩
      · rcases q with ⟨q, _⟩ | ⟨x, r, e, q⟩ | ⟨x, r, e, q⟩
        · cases q
        · cases e; exact absurd q (by decide)
        · cases e; exact absurd q (by decide)
      · rcases q with q | q
        · exact absurd q (by decide)
        · cases q
      · cases e
        rcases ff_step h3 with ⟨_, _, q⟩ | ⟨x, r, o4, e, _, rfl, h4⟩ | ⟨x, r, o4, e, _⟩
        · rcases q with ⟨q, _⟩ | ⟨x, r, e, q⟩ | ⟨x, r, e, q⟩
          · cases q
          · cases e; exact absurd q (by decide)
          · cases e
        · cases e
          rcases ff_step h4 with ⟨rfl, rfl, _⟩ | ⟨x, r, o5, e, _⟩ | ⟨x, r, o5, e, _⟩
          · exact ⟨rfl, by decide⟩
          · cases e
          · cases e
        · cases e
    · rcases q with q | q
      · cases q
      · exact absurd (show (0 : Int) + 1 < 2 by decide) q
  · rcases q with q | q
    · cases q
    · exact absurd (show (0 : Int) < 2 by decide) q

def tupA (i : Int) (P : Tg) : Int × (List (Int × Int)) × (List (Int × Int)) × Int × Int × Bool × (List (Int × Td)) × Tl × Int × Int :=
  (i, P.fa.fj, P.fa.fk, P.fa.fb, P.fa.fAt, P.fa.ff, P.fg, P.fe, P.fc, P.fd)

theorem awake_ok : gE = some true := by
  obtain ⟨_, P0, e0, r0⟩ := new20_ok (c := ⟨9, 99, 9, 9, 2⟩) ⟨by decide, by decide, by decide, by decide, by decide⟩
  obtain ⟨P1, X1, w1, e1, _, r1, c1, cr1, so1, z1, _, _, d1⟩ := add_both r0 (by decide) (id := 1) (by decide) false 0
  have hw1 : w1 = 0 := z1 (by simp [x0F]) (.inl rfl)
  subst hw1
  have f1 : X1.fL = [⟨1, false, ⟨9, 99, [], true⟩⟩] := by
    rcases d1 with ⟨_, q⟩ | ⟨q, _⟩
    · exact absurd rfl q
    · exact q
  obtain ⟨P2, X2, w2, e2, _, r2, c2, cr2, so2, z2, _, _, d2⟩ := add_both r1 (by decide) (id := 2) (by decide) true 9
  have hm1 : X1.fb = 9 := c1.most
  have hw2 : w2 = 0 := z2 (by rw [f1]; decide) (.inr (by rw [hm1]; decide))
  subst hw2
  have f2 : X2.fL = [⟨1, false, ⟨9, 99, [], true⟩⟩, ⟨2, true, ⟨9, 99, [], true⟩⟩] := by
    rcases d2 with ⟨_, q⟩ | ⟨q, _⟩
    · exact absurd rfl q
    · rw [q, f1, c1.frames, c1.bytes]; rfl
  have hm2 : X2.fb = 9 := by rw [c2.most, hm1]
  -- Put of a sound
  have hput : ∀ {P : Tg} {X : RO} {n : Nat} (i : Int) (l : List It) (br : Bool), Rel P X 0 n → n + 1 ≤ 1000 → X.fb = 9 → X.fL = [⟨1, false, ⟨9, 99, l, br⟩⟩, ⟨2, true, ⟨9, 99, [], true⟩⟩] → (l.length : Int) < 9 → sumS l + 1 ≤ 99 →
      ∃ P' X' l' b, gI P 1 ⟨i, 1, 0, false⟩ = some (l', b, P') ∧ Rel P' X' 0 (n + 1) ∧ Cfg X X' ∧ X'.fc = X.fc ∧ X'.fd = X.fd ∧ X'.fL = [⟨1, false, ⟨9, 99, l ++ [sI i], false⟩⟩, ⟨2, true, ⟨9, 99, [], true⟩⟩] := by
    intro P X n i l br hr hn hm hf h1 h2
    obtain ⟨P', X', l', b, p1, _, p3, _, p5, p6, p7, p8⟩ := put_both hr hn 1 ⟨i, 1, 0, false⟩ rfl
    refine ⟨P', X', l', b, p1, p3, p5, p6, p7, ?_⟩
    rcases p8 with ⟨_, q | q⟩ | ⟨k, hk, q', k1, k2, ⟨l0, k3⟩, _⟩
    · exact absurd (by rw [hf]; simp) q
    · rw [hm] at q; exact absurd q (show ¬ (9 : Int) < 1 by decide)
    · have hk0 : k = 0 := by
        rcases k with _ | _ | k
        · rfl
        · exact absurd k1 (by simp [hf])
        · simp [hf] at hk; omega
      subst hk0
      have hx : X.fL[0] = ⟨1, false, ⟨9, 99, l, br⟩⟩ := by simp [hf]
      have hq := hr.flows.ok _ (List.getElem_mem hk)
      rw [hx] at hq k3 k2
      rw [put_room hq (show (0 : Int) ≤ 1 by decide) h1 h2 (.inr (by rfl))] at k3
      obtain ⟨rfl, _⟩ := Prod.mk.inj (Option.some.inj k3)
      rw [k2, hf]
      rfl
  obtain ⟨P3, X3, _, _, e3, r3, c3, cr3, so3, f3⟩ := hput 0 [] true r2 (by decide) hm2 f2 (by decide) (by decide)
  have hm3 : X3.fb = 9 := by rw [c3.most, hm2]
  obtain ⟨P4, X4, _, _, e4, r4, c4, cr4, so4, f4⟩ := hput 1 [sI 0] false r3 (by decide) hm3 f3 (by decide) (by decide)
  have hm4 : X4.fb = 9 := by rw [c4.most, hm3]
  obtain ⟨P5, X5, _, _, e5, r5, c5, cr5, so5, f5⟩ := hput 2 [sI 0, sI 1] false r4 (by decide) hm4 f4 (by decide) (by decide)
  have hm5 : X5.fb = 9 := by rw [c5.most, hm4]
  have hloop : loopF gE.loop1 (tupA 0 P2) = some (.go (tupA 0 P5).2) := by
    have st : ∀ (i j : Int) (P P' : Tg) (l' : List Sn) (b : Bool), i < 3 → addI .i64 i 1 = j → gI P 1 ⟨i, 1, 0, false⟩ = some (l', b, P') → gE.loop1 (tupA i P) = some (.go (tupA j P')) := by
      intro i j P P' l' b hi hj hp
      unfold gE.loop1 tupA
      simp only
      rw [ltI_t hi, cond_true, show gI ⟨P.fe, P.fg, ⟨P.fa.fb, P.fa.fj, P.fa.fk, P.fa.fAt, P.fa.ff⟩, P.fc, P.fd⟩ 1 ⟨i, 1, 0, false⟩ = _ from hp]
      simp only [Ld, hj]
    rw [Lw (st 0 1 P2 P3 _ _ (by decide) (by decide) e3), Lw (st 1 2 P3 P4 _ _ (by decide) (by decide) e4), Lw (st 2 3 P4 P5 _ _ (by decide) (by decide) e5)]
    refine Lq ?_
    unfold gE.loop1 tupA
    simp only
    rw [ltI_f (by decide), cond_false]
  obtain ⟨P6, X6, _, _, e6, _, r6, _, c6, cr6, so6, d6⟩ := put_both r5 (by decide) 2 ⟨9, 5, 0, true⟩ rfl
  have f6 : X6.fL = FF [sI 0, sI 1, sI 2] [pI] := by
    rcases d6 with ⟨_, q | q⟩ | ⟨k, hk, q', k1, k2, ⟨l0, k3⟩, _⟩
    · exact absurd (by rw [f5]; simp) q
    · rw [hm5] at q; exact absurd q (by decide)
    · have hk0 : k = 1 := by
        rcases k with _ | _ | k
        · exact absurd k1 (by simp [f5])
        · rfl
        · simp [f5] at hk; omega
      subst hk0
      have hx : X5.fL[1] = ⟨2, true, ⟨9, 99, [], true⟩⟩ := by simp [f5]
      have hq := r5.flows.ok _ (List.getElem_mem hk)
      rw [hx] at hq k3 k2
      rw [put_room hq (by decide) (by decide) (by decide) (.inr (by rfl))] at k3
      obtain ⟨rfl, _⟩ := Prod.mk.inj (Option.some.inj k3)
      rw [k2, f5]
      rfl
  have hc6 : P6.fc = 0 := by rw [r6.credit.1, cr6, cr5, cr4, cr3, cr2, cr1]; rfl
  have hs6 : X6.fd = 0 := by rw [so6, so5, so4, so3, so2, so1]; rfl
  have hg6 : X6.fp = 2 := by rw [c6.guard, c5.guard, c4.guard, c3.guard, c2.guard, c1.guard]; rfl
  have hgr : gT P6 100 = some ⟨P6.fe, P6.fg, P6.fa, 100, P6.fd⟩ := by
    unfold gT
    rw [hc6]
    rfl
  have r7 := grant_rel r6 (c := 100) (by decide)
  obtain ⟨P8, X8, out, e8, _, r8, t8, _⟩ := run_both r7
  simp only [f6, hs6, hg6] at t8
  obtain ⟨rfl, hc8⟩ := ff_all t8
  have hc : gp P8 = some 92 := by unfold gp; rw [r8.credit.1, hc8]
  unfold gE
  rw [e0]
  simp only [Ld, optC_some]
  rw [neI_f rfl, show pickB false true false = false from rfl, cond_false, e1]
  simp only [Ld]
  rw [neI_f rfl, cond_false, e2]
  simp only [Ld]
  rw [neI_f rfl, cond_false, show loopF gE.loop1 (0, P2.fa.fj, P2.fa.fk, P2.fa.fb, P2.fa.fAt, P2.fa.ff, P2.fg, P2.fe, P2.fc, P2.fd) = _ from hloop]
  simp only [Ld, flC_go, tupA]
  rw [show gI ⟨P5.fe, P5.fg, ⟨P5.fa.fb, P5.fa.fj, P5.fa.fk, P5.fa.fAt, P5.fa.ff⟩, P5.fc, P5.fd⟩ 2 ⟨9, 5, 0, true⟩ = _ from e6]
  simp only [Ld]
  rw [hgr]
  simp only [Ld]
  rw [e8]
  simp only [Ld]
  rw [hc, Le (Lx (by decide)), Le (Lx (by decide)), Le (Lx (by decide)), Le (Lx (by decide)), Le (some_u' _)]
  rfl

theorem config_ok (a b : Int) : ∃ c, gQ a b = some c ∧ CfgOk c ∧ c.fh ≤ 8 ∧ c.fu ≤ 32 := by
  refine ⟨⟨1 + a % 8, 16 + b % 64, 1 + shrI .i64 a 3 % 32, 1 + shrI .i64 b 6 % 32, 1 + shrI .i64 a 8 % 4⟩, ?_, ⟨?_, ?_, ?_, ?_, ?_⟩, ?_, ?_⟩
  · unfold gQ
    rw [Le (show NonN 3 from by unfold NonN; decide), Le (show NonN 6 from by unfold NonN; decide), Le (show NonN 8 from by unfold NonN; decide),
      and_mask' (j := 3) (by omega) a 7 (by decide), and_mask' (j := 6) (by omega) b 63 (by decide), and_mask' (j := 5) (by omega) (shrI .i64 a 3) 31 (by decide), and_mask' (j := 5) (by omega) (shrI .i64 b 6) 31 (by decide),
      and_mask' (j := 2) (by omega) (shrI .i64 a 8) 3 (by decide)]
    simp only [show (2 : Int) ^ 3 = 8 from by decide, show (2 : Int) ^ 6 = 64 from by decide, show (2 : Int) ^ 5 = 32 from by decide, show (2 : Int) ^ 2 = 4 from by decide]
    rw [addI_n (by omega) (by omega), addI_n (by omega) (by omega), addI_n (by omega) (by omega), addI_n (by omega) (by omega), addI_n (by omega) (by omega)]
  all_goals (simp only; omega)

theorem begin_ok {c : Tl} (h : CfgOk c) : ∃ P, gan c = some (⟨P, x0F c, 0, 0⟩, true) ∧ Rel P (x0F c) 0 0 := by
  obtain ⟨_, P, e, r⟩ := new20_ok h
  refine ⟨P, ?_, r⟩
  unfold gan
  rw [e]
  simp only [Ld, optC_some]
  rw [eqI_t rfl]
  rfl
end Go.Proofs
end
section
namespace Go.Proofs
open Go.Ab

theorem wf_id {x : AcT} (w : (Lit.int .i64 x.fId).wf = true) : -9223372036854775808 ≤ x.fId ∧ x.fId ≤ 9223372036854775807 := by
  simp only [Lit.wf, Bool.and_eq_true, decide_eq_true_eq] at w
  exact w

theorem is_ok {P : Tg} {X : RO} {t : Int} {n : Nat} {N : Int} (h : Rel P X t n) : gat ⟨P, X, t, N⟩ = some 0 := by
  have hlen := h.len
  have hsc := scan_ok (N := X.fL.length) (body := gat.loop1 ⟨P, X, t, N⟩) (fun _ => false) (fun k => (k : Int)) (by omega) (fun k hk => by
      have hmem := List.getElem_mem hk
      have hq := h.flows.ok _ hmem
      have hc := h.qcfg _ hmem
      have hsm := hq.small
      have hql := hq.len
      have hqs := hq.sum
      have hqm := hq.most
      have hf := h.flows.find hmem
      have hw : gL P X.fL[k].fId = some (lenL X.fL[k].fQ.fL, sumS X.fL[k].fQ.fL) := by
        unfold gL
        rw [hf, optC_some, len_ok, qsize_ok]
        rfl
      have hb : gV P X.fL[k].fId = some X.fL[k].fQ.fv := by
        unfold gV
        rw [hf, optC_some, broken_ok]
        exact Le rfl
      unfold gat.loop1
      simp only
      rw [ltI_t (by unfold lenL; omega), cond_true, Le (inb_n hk), nthI_n hk, hw]
      simp only [Ld]
      rw [size_ok (by omega) hq.size (by omega), hb, neI_f rfl, Le (some_u' _), Le (some_u' _), getD_so, getD_so, neI_f rfl, neB_d, ltI_f (by unfold lenL; omega), ltI_f (by omega), Lv _ (by omega)]
      simp [pickB])
    (by unfold gat.loop1; simp only; rw [ltI_f (by unfold lenL; omega)]; rfl)
  unfold gat gp
  simp only [Ld]
  rw [neI_f h.credit.1, cond_false]
  rcases hsc with ⟨k, hk, ht, _⟩ | ⟨_, e⟩
  · cases ht
  · rw [e]; rfl

def tupS (i : Int) (P : Tg) (X : RO) (t N : Int) : Int × (List (Int × Int)) × (List (Int × Int)) × Int × Int × Bool × (List (Int × Td)) × Tl × Int × Int × Tb × Int × Int :=
  (i, P.fa.fj, P.fa.fk, P.fa.fb, P.fa.fAt, P.fa.ff, P.fg, P.fe, P.fc, P.fd, X, t, N)

theorem egressPlays_plain (x0 x1 : Int) (x2 : List AcT) (w : ∀ x ∈ x2, (Lit.int .i64 x.fId).wf = true) : gU x0 x1 x2 = some true := by
  obtain ⟨c, ec, hc, _⟩ := config_ok x0 x1
  obtain ⟨P0, eb, r0⟩ := begin_ok hc
  have key : ∀ (m k : Nat) (P : Tg) (X : RO) (t N : Int), k + m = 120 → Rel P X t k → ∃ v, loopF (gU.loop1 x2) (tupS (k : Int) P X t N) = some (.go v) := by
    intro m
    induction m with
    | zero =>
      intro k P X t N hk _
      refine ⟨(tupS (k : Int) P X t N).2, Lq ?_⟩
      unfold gU.loop1 tupS
      simp only
      rw [pickB_and, ltI_f (a := (k : Int)) (b := 120) (by omega), Bool.and_false, cond_false]
    | succ m ih =>
      intro k P X t N hk hr
      by_cases hl : k < x2.length
      · obtain ⟨P', X', t', N', out, e1, e2, _⟩ := does_ok (N := N) hr (by omega) (wf_id (w _ (List.getElem_mem hl)))
        obtain ⟨v, hv⟩ := ih (k + 1) P' X' t' N' (by omega) e2
        refine ⟨v, ?_⟩
        rw [← hv]
        refine Lw ?_
        unfold gU.loop1 tupS
        simp only
        rw [ltI_t (by unfold lenL; omega), ltI_t (by omega), show pickB true true false = true from rfl, cond_true, Le (inb_n hl), nthI_n hl,
          show gy ⟨⟨P.fe, P.fg, ⟨P.fa.fb, P.fa.fj, P.fa.fk, P.fa.fAt, P.fa.ff⟩, P.fc, P.fd⟩, X, t, N⟩ x2[k] = _ from e1]
        simp only [Ld]
        rw [is_ok e2, Le (some_u' _), getD_so, neI_f rfl, Lv _ (by omega)]
        rfl
      · refine ⟨(tupS (k : Int) P X t N).2, Lq ?_⟩
        unfold gU.loop1 tupS
        simp only
        rw [ltI_f (b := lenL x2) (by unfold lenL; omega), show ∀ b, pickB false b false = false from fun b => rfl, cond_false]
  obtain ⟨v, hv⟩ := key 120 0 P0 (x0F c) 0 0 rfl r0
  unfold gU
  rw [ec]
  simp only [Ld]
  rw [eb]
  simp only [Ld]
  rw [awake_ok]
  simp only [Ld]
  rw [show pickB (notB true) true (notB true) = false from rfl, cond_false, show loopF (gU.loop1 x2) (0, P0.fa.fj, P0.fa.fk, P0.fa.fb, P0.fa.fAt, P0.fa.ff, P0.fg, P0.fe, P0.fc, P0.fd, x0F c, 0, 0) = _ from hv]
  rfl
end Go.Proofs
end
section
namespace Go.Ab
def ShFs (P : Program) : List TypeId → List AV → Prop
  | [], q => q = []
  | t :: ts, q => ∃ r q', q = r ++ q' ∧ ShE P t r ∧ ShFs P ts q'
theorem shFs_of {P : Program} : ∀ {ts : List TypeId} {parts : List (List AV)}, parts.length = ts.length → (∀ (j : Nat) (t : TypeId), ts[j]? = some t → ∃ r, parts[j]? = some r ∧ ShE P t r) → ShFs P ts parts.flatten
  | [], [], _, _ => rfl
  | [], _ :: _, h, _ => by simp at h
  | _ :: _, [], h, _ => by simp at h
  | t :: ts, p :: parts, h, hp => by
    obtain ⟨r, h1, h2⟩ := hp 0 t rfl
    cases h1
    exact ⟨p, parts.flatten, by simp, h2, shFs_of (by simpa using h) fun j t' ht => hp (j + 1) t' ht⟩
theorem sh_fields {P : Program} {t : TypeId} {l : List (Nat × TypeId)} {size bytes : Nat} {z q : List AV} {eq : Bool} (ht : tyOf P t = some ⟨.struct l, size, bytes, z, eq⟩) (h : ShE P t q) : ShFs P (l.map (·.2)) q := by
  unfold tyOf at ht
  split at ht
  · rename_i i d hi hd
    split at ht
    · split at ht
      · simp only [Option.some.injEq, TyI.mk.injEq] at ht
        obtain ⟨hk, _⟩ := ht
        cases d with
        | struct fs =>
          simp only [kindOf, TyK.struct.injEq] at hk
          obtain ⟨parts, h1, rfl, h3⟩ := sh_struct hd h
          refine shFs_of (by rw [h1, ← hk]; simp) fun j t' hj => ?_
          rw [← hk] at hj
          simp only [List.map_map, List.getElem?_map, Array.getElem?_toList] at hj
          cases hf : fs[j]? with
          | none => rw [hf] at hj; cases hj
          | some f =>
            rw [hf] at hj
            simp only [Option.map_some, Option.some.injEq, Function.comp_apply] at hj
            subst hj
            exact h3 j f hf
        | _ => simp [kindOf] at hk
      · cases ht
    · cases ht
  · cases ht
theorem shV_rows {P : Program} {t e : TypeId} {av : AV} {α : Type} {enc : α → List AV} {wf : α → Prop} (hu : P.underlying t = some (.slice e)) (he : ∀ q, ShE P e q → ∃ x, q = enc x ∧ wf x) (h : ShV P t av) :
    ∃ l : List α, av = .sl (l.map enc) .no ∧ l.length ≤ maxLen ∧ ∀ x ∈ l, wf x := by
  obtain ⟨els, rfl, hq, hlen⟩ := shV_slice hu h
  have : ∀ els : List (List AV), (∀ q ∈ els, ShE P e q) → ∃ l : List α, els = l.map enc ∧ ∀ x ∈ l, wf x := by
    intro els
    induction els with
    | nil => intro _; exact ⟨[], rfl, fun _ h => by cases h⟩
    | cons q r ih =>
      intro hq
      obtain ⟨n, rfl, hw⟩ := he q (hq q (by simp))
      obtain ⟨l, rfl, hl⟩ := ih fun q' h' => hq q' (by simp [h'])
      exact ⟨n :: l, rfl, fun x hx => by
        rcases List.mem_cons.1 hx with rfl | hx
        · exact hw
        · exact hl x hx⟩
  obtain ⟨l, rfl, hl⟩ := this els hq
  exact ⟨l, rfl, by simpa using hlen, hl⟩
end Go.Ab
end

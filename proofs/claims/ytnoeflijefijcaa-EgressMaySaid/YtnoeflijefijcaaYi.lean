/- An outlet at its start; the answers that the document fixes. No condition. -/
import Derived.Test.YtnoeflijefijcaaM02
namespace Go.Proofs
open Go.Ab

/-- A configuration that may be. -/
structure CfgOk (c : EgressConfig) : Prop where
  frames : 1 ≤ c.fFrames ∧ c.fFrames ≤ 1024
  bytes : 1 ≤ c.fBytes ∧ c.fBytes ≤ 16777216
  age : 1 ≤ c.fAge ∧ c.fAge ≤ 1099511627776
  most : 1 ≤ c.fMost ∧ c.fMost ≤ 16777216
  guard : 1 ≤ c.fGuard ∧ c.fGuard ≤ 1024
def x0F (c : EgressConfig) : RO := ⟨c.fFrames, c.fBytes, c.fAge, c.fMost, c.fGuard, [], ⟨c.fMost, [], 0, false⟩, 0, 0⟩

theorem new20_ok {c : EgressConfig} (h : CfgOk c) : gEgressConfigCheck c = some 0 ∧ ∃ P, gEgressNew c = some (some P, 0) ∧ Rel P (x0F c) 0 0 := by
  obtain ⟨h1, h2, h3, h4, h5⟩ := h
  have hc : gEgressConfigCheck c = some 0 := by
    unfold gEgressConfigCheck
    rw [ltI_f (by omega), ltI_f (by omega), ltI_f (by omega), ltI_f (by omega), ltI_f (by omega), ltI_f (by omega), ltI_f (by omega), ltI_f (by omega), ltI_f (by omega), ltI_f (by omega)]
    rfl
  obtain ⟨s, e1, e2⟩ := new_ok (mo := c.fMost) h4.1 h4.2
  refine ⟨hc, ⟨c, [], s, 0, 0⟩, ?_, ?_⟩
  · unfold gEgressNew
    rw [hc]
    simp only [bind_so]
    rw [neI_f rfl, cond_false, e1]
    simp only [bind_so, optC_some]
    rw [neI_f rfl, cond_false]
  · exact ⟨rfl, h1, h2, h4, h5, ⟨.refl _, .nil, (fun f hf => by cases hf), (fun f hf => by cases hf), by simp [x0F]⟩, (fun f hf => by cases hf), (fun f hf => by cases hf),
      ⟨_, _, _, _, e2, rfl, fun y => ⟨Int.le_refl _, .inl (show (0 : Int) ≤ c.fMost by omega)⟩, (fun i hi => by cases hi), fun i hi => ⟨rfl, rfl⟩⟩, ⟨rfl, by show (0 : Int) ≤ 0; decide, by show (0 : Int) ≤ 1099511627776; decide⟩,
      ⟨rfl, by show (0 : Int) ≤ 0; decide, by show (0 : Int) + (tot [] : Nat) ≤ (0 : Nat); decide⟩, by simp [x0F], by decide, by decide⟩

theorem grant_rel {P : EgressOut} {X : RO} {t : Int} {n : Nat} (h : Rel P X t n) {c : Int} (hc : 0 ≤ c ∧ c ≤ 1099511627776) :
    Rel ⟨P.fConfig, P.fFlows, P.fSched, c, P.fSounds⟩ ⟨X.fFrames, X.fBytes, X.fAge, X.fMost, X.fGuard, X.fL, X.fS, c, X.fSounds⟩ t n :=
  ⟨h.cfg, h.frames, h.bytes, h.most, h.guard, h.flows, h.qcfg, h.items, h.sched, ⟨rfl, hc⟩, h.sounds, h.many, h.time, h.calls⟩

/-- Put where there is room. -/
theorem put_room {q : RQ} (h : QOk q) {x : It} (h0 : 0 ≤ x.fSize) (h1 : (q.fL.length : Int) < q.fFrames) (h2 : sumS q.fL + x.fSize ≤ q.fMost) (h3 : q.fBroken = false ∨ x.fKey = true) :
    gRef18Put q x = some (⟨q.fFrames, q.fMost, q.fL ++ [x], false⟩, [], true) := by
  have hm := h.most
  have hs := sumS_nn h.size
  have hsm := h.small
  have e := size_ok (l := q.fL) (by omega) h.size (by omega)
  have hb : pickB q.fBroken (notB x.fKey) false = false := by rcases h3 with q | q <;> rw [q] <;> simp [pickB, notB]
  have hl : loopF (gRef18Put.loop1 x) ([], q) = some (.go ([], q)) := by
    refine loop_out ?_
    unfold gRef18Put.loop1
    simp only [e, Option.getD_some]
    rw [leI_f (by unfold lenL; omega), need_t (some_u _), subI_n (by omega) (by omega), ltI_f (by omega)]
    rfl
  unfold gRef18Put
  rw [ltI_f (by omega), ltI_f (by omega), hb, hl]
  simp only [show pickB (pickB false true false) true false = false from rfl, cond_false, bind_so, flC_go, hb]
  rw [need_t (appB_0 _ (by omega) (by omega)), need_t (appB_1 _ (by omega) (by omega))]
  rfl

/-! ### The first example -/
def FF (a b : List It) : List Fw := [⟨1, false, ⟨9, 99, a, false⟩⟩, ⟨2, true, ⟨9, 99, b, false⟩⟩]
theorem ff_step {a b : List It} {so cr : Int} {out : List Sn} {F' : List Fw} {so' cr' : Int} (h : Tr 2 (FF a b) so cr out F' so' cr') :
    (out = [] ∧ cr' = cr ∧ ((a = [] ∧ b = []) ∨ (∃ x r, a = x :: r ∧ cr < x.fSize) ∨ (∃ x r, b = x :: r ∧ cr < x.fSize))) ∨
    (∃ x r out', a = x :: r ∧ (so < 2 ∨ b = []) ∧ out = ⟨1, x⟩ :: out' ∧ Tr 2 (FF r b) (so + 1) (cr - x.fSize) out' F' so' cr') ∨
    (∃ x r out', b = x :: r ∧ (a = [] ∨ ¬ so < 2) ∧ out = ⟨2, x⟩ :: out' ∧ Tr 2 (FF a r) 0 (cr - x.fSize) out' F' so' cr') := by
  have fF : (FF a b).filter (waitsV false) = if a = [] then [] else [⟨1, false, ⟨9, 99, a, false⟩⟩] := by cases a <;> simp [FF, waitsV]
  have fT : (FF a b).filter (waitsV true) = if b = [] then [] else [⟨2, true, ⟨9, 99, b, false⟩⟩] := by cases b <;> simp [FF, waitsV]
  cases h with
  | nil he =>
    refine .inl ⟨rfl, rfl, ?_⟩
    rcases he with he | ⟨f, hf, h1, h2⟩
    · exact .inl ⟨he ⟨1, false, ⟨9, 99, a, false⟩⟩ (.head _), he ⟨2, true, ⟨9, 99, b, false⟩⟩ (.tail _ (.head _))⟩
    · rcases List.mem_cons.1 hf with rfl | hf
      · cases a with
        | nil => exact absurd rfl h1
        | cons x r => exact .inr (.inl ⟨x, r, rfl, h2⟩)
      · rw [List.mem_singleton.1 hf] at h1 h2
        cases b with
        | nil => exact absurd rfl h1
        | cons x r => exact .inr (.inr ⟨x, r, rfl, h2⟩)
  | snd k hk hw hg hle h' =>
    refine .inr (.inl ?_)
    rcases k with _ | _ | k
    · cases a with
      | nil => simp [FF, waitsV] at hw
      | cons x r =>
        refine ⟨x, r, _, rfl, ?_, rfl, h'⟩
        rw [fT] at hg
        rcases hg with q | q
        · exact .inl q
        · right
          by_cases hb : b = []
          · exact hb
          · rw [if_neg hb] at q; cases q
    · simp [FF, waitsV] at hw
    · simp [FF] at hk; omega
  | pic k hk hw hg hle h' =>
    refine .inr (.inr ?_)
    rcases k with _ | _ | k
    · simp [FF, waitsV] at hw
    · cases b with
      | nil => simp [FF, waitsV] at hw
      | cons x r =>
        refine ⟨x, r, _, rfl, ?_, rfl, h'⟩
        rw [fF] at hg
        rcases hg with q | q
        · left
          by_cases ha : a = []
          · exact ha
          · rw [if_neg ha] at q; cases q
        · exact .inr q
    · simp [FF] at hk; omega

def sI (i : Int) : It := ⟨i, 1, 0, true⟩
def pI : It := ⟨9, 5, 0, true⟩
theorem ff_all {out : List Sn} {F' : List Fw} {so' cr' : Int} (h : Tr 2 (FF [sI 0, sI 1, sI 2] [pI]) 0 100 out F' so' cr') : out = [⟨1, sI 0⟩, ⟨1, sI 1⟩, ⟨2, pI⟩, ⟨1, sI 2⟩] ∧ cr' = 92 := by
  rcases ff_step h with ⟨_, _, q⟩ | ⟨x, r, o1, e, _, rfl, h1⟩ | ⟨x, r, o1, e, q, _⟩
  · rcases q with ⟨q, _⟩ | ⟨x, r, e, q⟩ | ⟨x, r, e, q⟩
    · cases q
    · cases e; exact absurd q (by decide)
    · cases e; exact absurd q (by decide)
  · cases e
    rcases ff_step h1 with ⟨_, _, q⟩ | ⟨x, r, o2, e, _, rfl, h2⟩ | ⟨x, r, o2, e, q, _⟩
    · rcases q with ⟨q, _⟩ | ⟨x, r, e, q⟩ | ⟨x, r, e, q⟩
      · cases q
      · cases e; exact absurd q (by decide)
      · cases e; exact absurd q (by decide)
    · cases e
      rcases ff_step h2 with ⟨_, _, q⟩ | ⟨x, r, o3, e, q, rfl, h3⟩ | ⟨x, r, o3, e, _, rfl, h3⟩
      · rcases q with ⟨q, _⟩ | ⟨x, r, e, q⟩ | ⟨x, r, e, q⟩
        · cases q
        · cases e; exact absurd q (by decide)
        · cases e; exact absurd q (by decide)
      · rcases q with q | q
        · exact absurd q (by decide)
        · cases q
      · cases e
        rcases ff_step h3 with ⟨_, _, q⟩ | ⟨x, r, o4, e, _, rfl, h4⟩ | ⟨x, r, o4, e, _⟩
        · rcases q with ⟨q, _⟩ | ⟨x, r, e, q⟩ | ⟨x, r, e, q⟩
          · cases q
          · cases e; exact absurd q (by decide)
          · cases e
        · cases e
          rcases ff_step h4 with ⟨rfl, rfl, _⟩ | ⟨x, r, o5, e, _⟩ | ⟨x, r, o5, e, _⟩
          · exact ⟨rfl, by decide⟩
          · cases e
          · cases e
        · cases e
    · rcases q with q | q
      · cases q
      · exact absurd (show (0 : Int) + 1 < 2 by decide) q
  · rcases q with q | q
    · cases q
    · exact absurd (show (0 : Int) < 2 by decide) q

def tupA (i : Int) (P : EgressOut) : Int × (List (Int × Int)) × (List (Int × Int)) × Int × Int × Bool × (List (Int × EgressFlow)) × EgressConfig × Int × Int :=
  (i, P.fSched.fShare, P.fSched.fLeft, P.fSched.fMost, P.fSched.fAt, P.fSched.fGranted, P.fFlows, P.fConfig, P.fCredit, P.fSounds)

theorem awake_ok : gLaw20Awake = some true := by
  obtain ⟨_, P0, e0, r0⟩ := new20_ok (c := ⟨9, 99, 9, 9, 2⟩) ⟨by decide, by decide, by decide, by decide, by decide⟩
  obtain ⟨P1, X1, w1, e1, _, r1, c1, cr1, so1, z1, _, _, d1⟩ := add_both r0 (by decide) (id := 1) (by decide) false 0
  have hw1 : w1 = 0 := z1 (by simp [x0F]) (.inl rfl)
  subst hw1
  have f1 : X1.fL = [⟨1, false, ⟨9, 99, [], true⟩⟩] := by
    rcases d1 with ⟨_, q⟩ | ⟨q, _⟩
    · exact absurd rfl q
    · exact q
  obtain ⟨P2, X2, w2, e2, _, r2, c2, cr2, so2, z2, _, _, d2⟩ := add_both r1 (by decide) (id := 2) (by decide) true 9
  have hm1 : X1.fMost = 9 := c1.most
  have hw2 : w2 = 0 := z2 (by rw [f1]; decide) (.inr (by rw [hm1]; decide))
  subst hw2
  have f2 : X2.fL = [⟨1, false, ⟨9, 99, [], true⟩⟩, ⟨2, true, ⟨9, 99, [], true⟩⟩] := by
    rcases d2 with ⟨_, q⟩ | ⟨q, _⟩
    · exact absurd rfl q
    · rw [q, f1, c1.frames, c1.bytes]; rfl
  have hm2 : X2.fMost = 9 := by rw [c2.most, hm1]
  -- Put of a sound
  have hput : ∀ {P : EgressOut} {X : RO} {n : Nat} (i : Int) (l : List It) (br : Bool), Rel P X 0 n → n + 1 ≤ 1000 → X.fMost = 9 → X.fL = [⟨1, false, ⟨9, 99, l, br⟩⟩, ⟨2, true, ⟨9, 99, [], true⟩⟩] → (l.length : Int) < 9 → sumS l + 1 ≤ 99 →
      ∃ P' X' l' b, gEgressOutPut P 1 ⟨i, 1, 0, false⟩ = some (l', b, P') ∧ Rel P' X' 0 (n + 1) ∧ Cfg X X' ∧ X'.fCredit = X.fCredit ∧ X'.fSounds = X.fSounds ∧ X'.fL = [⟨1, false, ⟨9, 99, l ++ [sI i], false⟩⟩, ⟨2, true, ⟨9, 99, [], true⟩⟩] := by
    intro P X n i l br hr hn hm hf h1 h2
    obtain ⟨P', X', l', b, p1, _, p3, _, p5, p6, p7, p8⟩ := put_both hr hn 1 ⟨i, 1, 0, false⟩ rfl
    refine ⟨P', X', l', b, p1, p3, p5, p6, p7, ?_⟩
    rcases p8 with ⟨_, q | q⟩ | ⟨k, hk, q', k1, k2, ⟨l0, k3⟩, _⟩
    · exact absurd (by rw [hf]; simp) q
    · rw [hm] at q; exact absurd q (show ¬ (9 : Int) < 1 by decide)
    · have hk0 : k = 0 := by
        rcases k with _ | _ | k
        · rfl
        · exact absurd k1 (by simp [hf])
        · simp [hf] at hk; omega
      subst hk0
      have hx : X.fL[0] = ⟨1, false, ⟨9, 99, l, br⟩⟩ := by simp [hf]
      have hq := hr.flows.ok _ (List.getElem_mem hk)
      rw [hx] at hq k3 k2
      rw [put_room hq (show (0 : Int) ≤ 1 by decide) h1 h2 (.inr (by rfl))] at k3
      obtain ⟨rfl, _⟩ := Prod.mk.inj (Option.some.inj k3)
      rw [k2, hf]
      rfl
  obtain ⟨P3, X3, _, _, e3, r3, c3, cr3, so3, f3⟩ := hput 0 [] true r2 (by decide) hm2 f2 (by decide) (by decide)
  have hm3 : X3.fMost = 9 := by rw [c3.most, hm2]
  obtain ⟨P4, X4, _, _, e4, r4, c4, cr4, so4, f4⟩ := hput 1 [sI 0] false r3 (by decide) hm3 f3 (by decide) (by decide)
  have hm4 : X4.fMost = 9 := by rw [c4.most, hm3]
  obtain ⟨P5, X5, _, _, e5, r5, c5, cr5, so5, f5⟩ := hput 2 [sI 0, sI 1] false r4 (by decide) hm4 f4 (by decide) (by decide)
  have hm5 : X5.fMost = 9 := by rw [c5.most, hm4]
  have hloop : loopF gLaw20Awake.loop1 (tupA 0 P2) = some (.go (tupA 0 P5).2) := by
    have st : ∀ (i j : Int) (P P' : EgressOut) (l' : List Sn) (b : Bool), i < 3 → addI .i64 i 1 = j → gEgressOutPut P 1 ⟨i, 1, 0, false⟩ = some (l', b, P') → gLaw20Awake.loop1 (tupA i P) = some (.go (tupA j P')) := by
      intro i j P P' l' b hi hj hp
      unfold gLaw20Awake.loop1 tupA
      simp only
      rw [ltI_t hi, cond_true, show gEgressOutPut ⟨P.fConfig, P.fFlows, ⟨P.fSched.fMost, P.fSched.fShare, P.fSched.fLeft, P.fSched.fAt, P.fSched.fGranted⟩, P.fCredit, P.fSounds⟩ 1 ⟨i, 1, 0, false⟩ = _ from hp]
      simp only [bind_so, hj]
    rw [loop_go (st 0 1 P2 P3 _ _ (by decide) (by decide) e3), loop_go (st 1 2 P3 P4 _ _ (by decide) (by decide) e4), loop_go (st 2 3 P4 P5 _ _ (by decide) (by decide) e5)]
    refine loop_out ?_
    unfold gLaw20Awake.loop1 tupA
    simp only
    rw [ltI_f (by decide), cond_false]
  obtain ⟨P6, X6, _, _, e6, _, r6, _, c6, cr6, so6, d6⟩ := put_both r5 (by decide) 2 ⟨9, 5, 0, true⟩ rfl
  have f6 : X6.fL = FF [sI 0, sI 1, sI 2] [pI] := by
    rcases d6 with ⟨_, q | q⟩ | ⟨k, hk, q', k1, k2, ⟨l0, k3⟩, _⟩
    · exact absurd (by rw [f5]; simp) q
    · rw [hm5] at q; exact absurd q (by decide)
    · have hk0 : k = 1 := by
        rcases k with _ | _ | k
        · exact absurd k1 (by simp [f5])
        · rfl
        · simp [f5] at hk; omega
      subst hk0
      have hx : X5.fL[1] = ⟨2, true, ⟨9, 99, [], true⟩⟩ := by simp [f5]
      have hq := r5.flows.ok _ (List.getElem_mem hk)
      rw [hx] at hq k3 k2
      rw [put_room hq (by decide) (by decide) (by decide) (.inr (by rfl))] at k3
      obtain ⟨rfl, _⟩ := Prod.mk.inj (Option.some.inj k3)
      rw [k2, f5]
      rfl
  have hc6 : P6.fCredit = 0 := by rw [r6.credit.1, cr6, cr5, cr4, cr3, cr2, cr1]; rfl
  have hs6 : X6.fSounds = 0 := by rw [so6, so5, so4, so3, so2, so1]; rfl
  have hg6 : X6.fGuard = 2 := by rw [c6.guard, c5.guard, c4.guard, c3.guard, c2.guard, c1.guard]; rfl
  have hgr : gEgressOutGrant P6 100 = some ⟨P6.fConfig, P6.fFlows, P6.fSched, 100, P6.fSounds⟩ := by
    unfold gEgressOutGrant
    rw [hc6]
    rfl
  have r7 := grant_rel r6 (c := 100) (by decide)
  obtain ⟨P8, X8, out, e8, _, r8, t8, _⟩ := run_both r7
  simp only [f6, hs6, hg6] at t8
  obtain ⟨rfl, hc8⟩ := ff_all t8
  have hc : gEgressOutCredit P8 = some 92 := by unfold gEgressOutCredit; rw [r8.credit.1, hc8]
  unfold gLaw20Awake
  rw [e0]
  simp only [bind_so, optC_some]
  rw [neI_f rfl, show pickB false true false = false from rfl, cond_false, e1]
  simp only [bind_so]
  rw [neI_f rfl, cond_false, e2]
  simp only [bind_so]
  rw [neI_f rfl, cond_false, show loopF gLaw20Awake.loop1 (0, P2.fSched.fShare, P2.fSched.fLeft, P2.fSched.fMost, P2.fSched.fAt, P2.fSched.fGranted, P2.fFlows, P2.fConfig, P2.fCredit, P2.fSounds) = _ from hloop]
  simp only [bind_so, flC_go, tupA]
  rw [show gEgressOutPut ⟨P5.fConfig, P5.fFlows, ⟨P5.fSched.fMost, P5.fSched.fShare, P5.fSched.fLeft, P5.fSched.fAt, P5.fSched.fGranted⟩, P5.fCredit, P5.fSounds⟩ 2 ⟨9, 5, 0, true⟩ = _ from e6]
  simp only [bind_so]
  rw [hgr]
  simp only [bind_so]
  rw [e8]
  simp only [bind_so]
  rw [hc, need_t (under_of (by decide)), need_t (under_of (by decide)), need_t (under_of (by decide)), need_t (under_of (by decide)), need_t (some_u' _)]
  rfl

end Go.Proofs
